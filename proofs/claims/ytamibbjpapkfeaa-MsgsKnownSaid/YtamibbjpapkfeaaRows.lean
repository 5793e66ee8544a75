/-
  No cell of these rows narrows 'for every input' (looked for: loops, veiled, ifaces, maps, wideKeys, modest, calm, conditions, laid).
  DERIVED. THE GIVEN ROWS OF THIS SEAT. 4 by the template 'for every input the law returns true; each argument reads behind the call as it read before'; 0 by the template 'total and deterministic' (their statements: YtamibbjpapkfeaaTotals.lean).
  GIVEN WITH THE SEED: the statements are not yours to turn. If you find one false, say at which input.
  Laid BY PROGRAM, IN A SANDBOX (cutbox-rows.mjs): the forced cells as the released guide's own fill.sh prints them over the translation 62d3a33be96f4d93… (all of the seat's roots in one cut). By AI agents, Wed Nov 11 2026. No macro, syntax, notation, axiom, sorry.
-/
import Derived.Test.YtamibbjpapkfeaaChecked
import GoSem.Claim
import GoSem.ClaimJoined
import GoSem.ClaimMapViews
import Derived.JoinedTies
import Derived.KernelRfl
namespace Go.Proofs.Ytamibbjpapkfeaa
/- THE CELL 'sum', in the pinned program and in every row, IS THE sha256 OF THE DUMP (.gsa) THAT YtamibbjpapkfeaaProg.lean LOADS. Nothing in Lean hashes anything: it is a label: what it is worth is what the hold of that sum in a sandbox is worth. -/
noncomputable def Try.pinned : Pinned := { name := "ytamibbjpapkfeaa", sum := "62d3a33be96f4d93935320882d143b201bbb180e656d0a1eb9e839d9fa46b06c", checked := Try.checked }
namespace Rows
def none {H : Type} : Left H := { results := [], args := [] }

/-- 'partylinelaw07.TlvRows': WHATEVER THE INPUT: true; the input reads as it did. -/
def tlvRowsSpec : ChangeSpec := { name := "tlvRows", fn := fun _ => fun
  | [d] => { results := [.lit (.bool true)], args := [d] }
  | _ => none }
def tlvRowsRow : OpenClaim := { program := "ytamibbjpapkfeaa", sum := "62d3a33be96f4d93935320882d143b201bbb180e656d0a1eb9e839d9fa46b06c", func := "partyline/partylinelaw07.TlvRows", spec := "tlvRows", unfollowed := true, recurses := true, apart := false }
def TlvRowsSaid : Prop := tlvRowsRow.holds Try.pinned (OpenSpec.ofChange tlvRowsSpec)

/-- ITS FALSE NEIGHBOUR: 'it returns false'. Refute it at one input. -/
def tlvRowsWrong : ChangeSpec := { name := "tlvRows", fn := fun _ => fun
  | [d] => { results := [.lit (.bool false)], args := [d] }
  | _ => none }
def TlvRowsWrongFalsely : Prop := tlvRowsRow.holds Try.pinned (OpenSpec.ofChange tlvRowsWrong)

/-- 'partylinelaw10.MsgsGets': WHATEVER THE INPUT: true; the input reads as it did. -/
def msgsGetsSpec : ChangeSpec := { name := "msgsGets", fn := fun _ => fun
  | [d] => { results := [.lit (.bool true)], args := [d] }
  | _ => none }
def msgsGetsRow : OpenClaim := { program := "ytamibbjpapkfeaa", sum := "62d3a33be96f4d93935320882d143b201bbb180e656d0a1eb9e839d9fa46b06c", func := "partyline/partylinelaw10.MsgsGets", spec := "msgsGets", unfollowed := true, recurses := true, apart := false }
def MsgsGetsSaid : Prop := msgsGetsRow.holds Try.pinned (OpenSpec.ofChange msgsGetsSpec)

/-- ITS FALSE NEIGHBOUR: 'it returns false'. Refute it at one input. -/
def msgsGetsWrong : ChangeSpec := { name := "msgsGets", fn := fun _ => fun
  | [d] => { results := [.lit (.bool false)], args := [d] }
  | _ => none }
def MsgsGetsWrongFalsely : Prop := msgsGetsRow.holds Try.pinned (OpenSpec.ofChange msgsGetsWrong)

/-- 'partylinelaw10.MsgsBack': WHATEVER THE INPUT: true; the input reads as it did. -/
def msgsBackSpec : ChangeSpec := { name := "msgsBack", fn := fun _ => fun
  | [d1, d2] => { results := [.lit (.bool true)], args := [d1, d2] }
  | _ => none }
def msgsBackRow : OpenClaim := { program := "ytamibbjpapkfeaa", sum := "62d3a33be96f4d93935320882d143b201bbb180e656d0a1eb9e839d9fa46b06c", func := "partyline/partylinelaw10.MsgsBack", spec := "msgsBack", unfollowed := true, recurses := true, apart := false }
def MsgsBackSaid : Prop := msgsBackRow.holds Try.pinned (OpenSpec.ofChange msgsBackSpec)

/-- ITS FALSE NEIGHBOUR: 'it returns false'. Refute it at one input. -/
def msgsBackWrong : ChangeSpec := { name := "msgsBack", fn := fun _ => fun
  | [d1, d2] => { results := [.lit (.bool false)], args := [d1, d2] }
  | _ => none }
def MsgsBackWrongFalsely : Prop := msgsBackRow.holds Try.pinned (OpenSpec.ofChange msgsBackWrong)

/-- 'partylinelaw10.MsgsKnown': WHATEVER THE INPUT: true; the input reads as it did. -/
def msgsKnownSpec : ChangeSpec := { name := "msgsKnown", fn := fun _ => fun
  | [] => { results := [.lit (.bool true)], args := [] }
  | _ => none }
def msgsKnownRow : OpenClaim := { program := "ytamibbjpapkfeaa", sum := "62d3a33be96f4d93935320882d143b201bbb180e656d0a1eb9e839d9fa46b06c", func := "partyline/partylinelaw10.MsgsKnown", spec := "msgsKnown", unfollowed := true, recurses := true, apart := false }
def MsgsKnownSaid : Prop := msgsKnownRow.holds Try.pinned (OpenSpec.ofChange msgsKnownSpec)

/-- ITS FALSE NEIGHBOUR: 'it returns false'. Refute it at one input. -/
def msgsKnownWrong : ChangeSpec := { name := "msgsKnown", fn := fun _ => fun
  | [] => { results := [.lit (.bool false)], args := [] }
  | _ => none }
def MsgsKnownWrongFalsely : Prop := msgsKnownRow.holds Try.pinned (OpenSpec.ofChange msgsKnownWrong)

/- THE SECOND FORM. 'bulk': how many values and letters a reading holds, each counted each time it is reached (what is shared counts as often as it is met; a slice's spare places count too). A statement '..UptoSaid' is the law's where the arguments, and the package variables that the reading takes, are together of bulk at most 1048576: NARROWER than '..Said'. Prove '..Said' where nothing that the law and all that it calls make is longer than what came in: it says more and counts as full. Else prove '..UptoSaid'. A law counts once. -/
mutual
def uptoBulk {H : Type} : DataW H → Nat
  | .lit (.string bytes) => bytes.length + 1
  | .lit _ => 1
  | .nil => 1
  | .ptr d => uptoBulk d + 1
  | .slice elems spare => uptoBulkAll elems + uptoBulkAll spare + 1
  | .agg parts => uptoBulkAll parts + 1
  | .iface _ d => uptoBulk d + 1
  | .map entries => uptoBulkEntries entries + 1
  | .held _ => 1
def uptoBulkAll {H : Type} : List (DataW H) → Nat
  | [] => 0
  | d :: r => uptoBulk d + uptoBulkAll r
def uptoBulkEntries {H : Type} : List (Lit × DataW H) → Nat
  | [] => 0
  | x :: r => uptoBulkEntry x + uptoBulkEntries r
def uptoBulkEntry {H : Type} : Lit × DataW H → Nat
  | (.string bytes, d) => bytes.length + uptoBulk d + 1
  | (_, d) => uptoBulk d + 1
 end
def uptoSmall : (H : Type) → List (DataW H) → Bool := fun _ ds => decide (uptoBulkAll ds ≤ 1048576)
def OpenSpec.upto (s : _root_.Go.ChangeSpec) : _root_.Go.OpenSpec := { _root_.Go.OpenSpec.ofChange s with cond := some uptoSmall }

/-- 'partylinelaw07.TlvRows', WHERE WHAT IT READS IS OF BULK AT MOST 1048576: true; the input reads as it did. -/
def tlvRowsUptoRow : OpenClaim := { program := "ytamibbjpapkfeaa", sum := "62d3a33be96f4d93935320882d143b201bbb180e656d0a1eb9e839d9fa46b06c", func := "partyline/partylinelaw07.TlvRows", spec := "tlvRows", unfollowed := true, recurses := true, apart := false, narrowed := true }
def TlvRowsUptoSaid : Prop := tlvRowsUptoRow.holds Try.pinned (OpenSpec.upto tlvRowsSpec)

/-- 'partylinelaw10.MsgsGets', WHERE WHAT IT READS IS OF BULK AT MOST 1048576: true; the input reads as it did. -/
def msgsGetsUptoRow : OpenClaim := { program := "ytamibbjpapkfeaa", sum := "62d3a33be96f4d93935320882d143b201bbb180e656d0a1eb9e839d9fa46b06c", func := "partyline/partylinelaw10.MsgsGets", spec := "msgsGets", unfollowed := true, recurses := true, apart := false, narrowed := true }
def MsgsGetsUptoSaid : Prop := msgsGetsUptoRow.holds Try.pinned (OpenSpec.upto msgsGetsSpec)

/-- 'partylinelaw10.MsgsBack', WHERE WHAT IT READS IS OF BULK AT MOST 1048576: true; the input reads as it did. -/
def msgsBackUptoRow : OpenClaim := { program := "ytamibbjpapkfeaa", sum := "62d3a33be96f4d93935320882d143b201bbb180e656d0a1eb9e839d9fa46b06c", func := "partyline/partylinelaw10.MsgsBack", spec := "msgsBack", unfollowed := true, recurses := true, apart := false, narrowed := true }
def MsgsBackUptoSaid : Prop := msgsBackUptoRow.holds Try.pinned (OpenSpec.upto msgsBackSpec)

/-- 'partylinelaw10.MsgsKnown', WHERE WHAT IT READS IS OF BULK AT MOST 1048576: true; the input reads as it did. -/
def msgsKnownUptoRow : OpenClaim := { program := "ytamibbjpapkfeaa", sum := "62d3a33be96f4d93935320882d143b201bbb180e656d0a1eb9e839d9fa46b06c", func := "partyline/partylinelaw10.MsgsKnown", spec := "msgsKnown", unfollowed := true, recurses := true, apart := false, narrowed := true }
def MsgsKnownUptoSaid : Prop := msgsKnownUptoRow.holds Try.pinned (OpenSpec.upto msgsKnownSpec)

end Rows
end Go.Proofs.Ytamibbjpapkfeaa
