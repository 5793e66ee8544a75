/-
  No cell of these rows narrows 'for every input' (looked for: loops, veiled, ifaces, maps, wideKeys, modest, calm, conditions, laid).
  DERIVED. THE GIVEN ROWS OF THIS SEAT. 4 by the template 'for every input the law returns true; each argument reads behind the call as it read before'; 0 by the template 'total and deterministic' (their statements: YtenkabjkgngcdaaGreatTotals.lean).
  GIVEN WITH THE SEED: the statements are not yours to turn. If you find one false, say at which input.
  Laid BY PROGRAM, IN A SANDBOX (cutbox-rows.mjs): the forced cells as the released guide's own fill.sh prints them over the translation 3b0b2713139aebc4… (all of the seat's roots in one cut). By AI agents, Wed Nov 11 2026. No macro, syntax, notation, axiom, sorry.
-/
import Derived.Test.YtenkabjkgngcdaaGreatChecked
import GoSem.Claim
import GoSem.ClaimJoined
import GoSem.ClaimMapViews
import Derived.JoinedTies
import Derived.KernelRfl
namespace Go.Proofs.YtenkabjkgngcdaaGreat
/- THE CELL 'sum', in the pinned program and in every row, IS THE sha256 OF THE DUMP (.gsa) THAT YtenkabjkgngcdaaGreatProg.lean LOADS. Nothing in Lean hashes anything: it is a label: what it is worth is what the hold of that sum in a sandbox is worth. -/
noncomputable def Tryz.pinned : Pinned := { name := "ytenkabjkgngcdaagreat", sum := "3b0b2713139aebc4df4fa2a722406a074ca555c0fd9f3456c3354a364935f443", checked := Tryz.checked }
namespace Rows
def none {H : Type} : Left H := { results := [], args := [] }

/-- 'partylinelaw23.ChannelWhole': WHATEVER THE INPUT: true; the input reads as it did. -/
def channelWholeSpec : ChangeSpec := { name := "channelWhole", fn := fun _ => fun
  | [d1, d2, d3] => { results := [.lit (.bool true)], args := [d1, d2, d3] }
  | _ => none }
def channelWholeRow : OpenClaim := { program := "ytenkabjkgngcdaagreat", sum := "3b0b2713139aebc4df4fa2a722406a074ca555c0fd9f3456c3354a364935f443", func := "partyline/partylinelaw23.ChannelWhole", spec := "channelWhole", unfollowed := true, recurses := true, apart := false }
def ChannelWholeSaid : Prop := channelWholeRow.holds Tryz.pinned (OpenSpec.ofChange channelWholeSpec)

/-- ITS FALSE NEIGHBOUR: 'it returns false'. Refute it at one input. -/
def channelWholeWrong : ChangeSpec := { name := "channelWhole", fn := fun _ => fun
  | [d1, d2, d3] => { results := [.lit (.bool false)], args := [d1, d2, d3] }
  | _ => none }
def ChannelWholeWrongFalsely : Prop := channelWholeRow.holds Tryz.pinned (OpenSpec.ofChange channelWholeWrong)

/-- 'partylinelaw23.ChannelFails': WHATEVER THE INPUT: true; the input reads as it did. -/
def channelFailsSpec : ChangeSpec := { name := "channelFails", fn := fun _ => fun
  | [d1, d2] => { results := [.lit (.bool true)], args := [d1, d2] }
  | _ => none }
def channelFailsRow : OpenClaim := { program := "ytenkabjkgngcdaagreat", sum := "3b0b2713139aebc4df4fa2a722406a074ca555c0fd9f3456c3354a364935f443", func := "partyline/partylinelaw23.ChannelFails", spec := "channelFails", unfollowed := true, recurses := true, apart := false }
def ChannelFailsSaid : Prop := channelFailsRow.holds Tryz.pinned (OpenSpec.ofChange channelFailsSpec)

/-- ITS FALSE NEIGHBOUR: 'it returns false'. Refute it at one input. -/
def channelFailsWrong : ChangeSpec := { name := "channelFails", fn := fun _ => fun
  | [d1, d2] => { results := [.lit (.bool false)], args := [d1, d2] }
  | _ => none }
def ChannelFailsWrongFalsely : Prop := channelFailsRow.holds Tryz.pinned (OpenSpec.ofChange channelFailsWrong)

/-- 'partylinelaw23.ChannelPair': WHATEVER THE INPUT: true; the input reads as it did. -/
def channelPairSpec : ChangeSpec := { name := "channelPair", fn := fun _ => fun
  | [d1, d2] => { results := [.lit (.bool true)], args := [d1, d2] }
  | _ => none }
def channelPairRow : OpenClaim := { program := "ytenkabjkgngcdaagreat", sum := "3b0b2713139aebc4df4fa2a722406a074ca555c0fd9f3456c3354a364935f443", func := "partyline/partylinelaw23.ChannelPair", spec := "channelPair", unfollowed := true, recurses := true, apart := false }
def ChannelPairSaid : Prop := channelPairRow.holds Tryz.pinned (OpenSpec.ofChange channelPairSpec)

/-- ITS FALSE NEIGHBOUR: 'it returns false'. Refute it at one input. -/
def channelPairWrong : ChangeSpec := { name := "channelPair", fn := fun _ => fun
  | [d1, d2] => { results := [.lit (.bool false)], args := [d1, d2] }
  | _ => none }
def ChannelPairWrongFalsely : Prop := channelPairRow.holds Tryz.pinned (OpenSpec.ofChange channelPairWrong)

/-- 'partylinelaw23.ChannelKnown': WHATEVER THE INPUT: true; the input reads as it did. -/
def channelKnownSpec : ChangeSpec := { name := "channelKnown", fn := fun _ => fun
  | [] => { results := [.lit (.bool true)], args := [] }
  | _ => none }
def channelKnownRow : OpenClaim := { program := "ytenkabjkgngcdaagreat", sum := "3b0b2713139aebc4df4fa2a722406a074ca555c0fd9f3456c3354a364935f443", func := "partyline/partylinelaw23.ChannelKnown", spec := "channelKnown", unfollowed := true, recurses := true, apart := false }
def ChannelKnownSaid : Prop := channelKnownRow.holds Tryz.pinned (OpenSpec.ofChange channelKnownSpec)

/-- ITS FALSE NEIGHBOUR: 'it returns false'. Refute it at one input. -/
def channelKnownWrong : ChangeSpec := { name := "channelKnown", fn := fun _ => fun
  | [] => { results := [.lit (.bool false)], args := [] }
  | _ => none }
def ChannelKnownWrongFalsely : Prop := channelKnownRow.holds Tryz.pinned (OpenSpec.ofChange channelKnownWrong)

/- THE SECOND FORM. 'bulk': how many values and letters a reading holds, each counted each time it is reached (what is shared counts as often as it is met; a slice's spare places count too). A statement '..UptoSaid' is the law's where the arguments, and the package variables that the reading takes, are together of bulk at most 1048576: NARROWER than '..Said'. Prove '..Said' where nothing that the law and all that it calls make is longer than what came in: it says more and counts as full. Else prove '..UptoSaid'. A law counts once. -/
mutual
def uptoBulk {H : Type} : DataW H → Nat
  | .lit (.string bytes) => bytes.length + 1
  | .lit _ => 1
  | .nil => 1
  | .ptr d => uptoBulk d + 1
  | .slice elems spare => uptoBulkAll elems + uptoBulkAll spare + 1
  | .agg parts => uptoBulkAll parts + 1
  | .iface _ d => uptoBulk d + 1
  | .map entries => uptoBulkEntries entries + 1
  | .held _ => 1
def uptoBulkAll {H : Type} : List (DataW H) → Nat
  | [] => 0
  | d :: r => uptoBulk d + uptoBulkAll r
def uptoBulkEntries {H : Type} : List (Lit × DataW H) → Nat
  | [] => 0
  | x :: r => uptoBulkEntry x + uptoBulkEntries r
def uptoBulkEntry {H : Type} : Lit × DataW H → Nat
  | (.string bytes, d) => bytes.length + uptoBulk d + 1
  | (_, d) => uptoBulk d + 1
 end
def uptoSmall : (H : Type) → List (DataW H) → Bool := fun _ ds => decide (uptoBulkAll ds ≤ 1048576)
def OpenSpec.upto (s : _root_.Go.ChangeSpec) : _root_.Go.OpenSpec := { _root_.Go.OpenSpec.ofChange s with cond := some uptoSmall }

/-- 'partylinelaw23.ChannelWhole', WHERE WHAT IT READS IS OF BULK AT MOST 1048576: true; the input reads as it did. -/
def channelWholeUptoRow : OpenClaim := { program := "ytenkabjkgngcdaagreat", sum := "3b0b2713139aebc4df4fa2a722406a074ca555c0fd9f3456c3354a364935f443", func := "partyline/partylinelaw23.ChannelWhole", spec := "channelWhole", unfollowed := true, recurses := true, apart := false, narrowed := true }
def ChannelWholeUptoSaid : Prop := channelWholeUptoRow.holds Tryz.pinned (OpenSpec.upto channelWholeSpec)

/-- 'partylinelaw23.ChannelFails', WHERE WHAT IT READS IS OF BULK AT MOST 1048576: true; the input reads as it did. -/
def channelFailsUptoRow : OpenClaim := { program := "ytenkabjkgngcdaagreat", sum := "3b0b2713139aebc4df4fa2a722406a074ca555c0fd9f3456c3354a364935f443", func := "partyline/partylinelaw23.ChannelFails", spec := "channelFails", unfollowed := true, recurses := true, apart := false, narrowed := true }
def ChannelFailsUptoSaid : Prop := channelFailsUptoRow.holds Tryz.pinned (OpenSpec.upto channelFailsSpec)

/-- 'partylinelaw23.ChannelPair', WHERE WHAT IT READS IS OF BULK AT MOST 1048576: true; the input reads as it did. -/
def channelPairUptoRow : OpenClaim := { program := "ytenkabjkgngcdaagreat", sum := "3b0b2713139aebc4df4fa2a722406a074ca555c0fd9f3456c3354a364935f443", func := "partyline/partylinelaw23.ChannelPair", spec := "channelPair", unfollowed := true, recurses := true, apart := false, narrowed := true }
def ChannelPairUptoSaid : Prop := channelPairUptoRow.holds Tryz.pinned (OpenSpec.upto channelPairSpec)

/-- 'partylinelaw23.ChannelKnown', WHERE WHAT IT READS IS OF BULK AT MOST 1048576: true; the input reads as it did. -/
def channelKnownUptoRow : OpenClaim := { program := "ytenkabjkgngcdaagreat", sum := "3b0b2713139aebc4df4fa2a722406a074ca555c0fd9f3456c3354a364935f443", func := "partyline/partylinelaw23.ChannelKnown", spec := "channelKnown", unfollowed := true, recurses := true, apart := false, narrowed := true }
def ChannelKnownUptoSaid : Prop := channelKnownUptoRow.holds Tryz.pinned (OpenSpec.upto channelKnownSpec)

end Rows
end Go.Proofs.YtenkabjkgngcdaaGreat
