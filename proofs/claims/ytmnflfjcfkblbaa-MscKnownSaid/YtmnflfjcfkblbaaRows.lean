/-
  No cell of these rows narrows 'for every input' (looked for: loops, veiled, ifaces, maps, wideKeys, modest, calm, conditions, laid).
  DERIVED. THE GIVEN ROWS OF THIS SEAT. 9 by the template 'for every input the law returns true; each argument reads behind the call as it read before'; 0 by the template 'total and deterministic' (their statements: YtmnflfjcfkblbaaTotals.lean).
  GIVEN WITH THE SEED: the statements are not yours to turn. If you find one false, say at which input.
  Laid BY PROGRAM, IN A SANDBOX (cutbox-rows.mjs): the forced cells as the released guide's own fill.sh prints them over the translation d3a3dd5af317a2c0… (all of the seat's roots in one cut). By AI agents, Wed Nov 11 2026. No macro, syntax, notation, axiom, sorry.
-/
import Derived.Test.YtmnflfjcfkblbaaChecked
import GoSem.Claim
import GoSem.ClaimJoined
import GoSem.ClaimMapViews
import Derived.JoinedTies
import Derived.KernelRfl
namespace Go.Proofs.Ytmnflfjcfkblbaa
/- THE CELL 'sum', in the pinned program and in every row, IS THE sha256 OF THE DUMP (.gsa) THAT YtmnflfjcfkblbaaProg.lean LOADS. Nothing in Lean hashes anything: it is a label: what it is worth is what the hold of that sum in a sandbox is worth. -/
noncomputable def Try.pinned : Pinned := { name := "ytmnflfjcfkblbaa", sum := "d3a3dd5af317a2c03e82455c27f9b0df531f6271e41a4644c85b7ff72f1161d1", checked := Try.checked }
namespace Rows
def none {H : Type} : Left H := { results := [], args := [] }

/-- 'partylinelaw02.EaLengths': WHATEVER THE INPUT: true; the input reads as it did. -/
def eaLengthsSpec : ChangeSpec := { name := "eaLengths", fn := fun _ => fun
  | [d1, d2] => { results := [.lit (.bool true)], args := [d1, d2] }
  | _ => none }
def eaLengthsRow : OpenClaim := { program := "ytmnflfjcfkblbaa", sum := "d3a3dd5af317a2c03e82455c27f9b0df531f6271e41a4644c85b7ff72f1161d1", func := "partyline/partylinelaw02.EaLengths", spec := "eaLengths", apart := false }
def EaLengthsSaid : Prop := eaLengthsRow.holds Try.pinned (OpenSpec.ofChange eaLengthsSpec)

/-- ITS FALSE NEIGHBOUR: 'it returns false'. Refute it at one input. -/
def eaLengthsWrong : ChangeSpec := { name := "eaLengths", fn := fun _ => fun
  | [d1, d2] => { results := [.lit (.bool false)], args := [d1, d2] }
  | _ => none }
def EaLengthsWrongFalsely : Prop := eaLengthsRow.holds Try.pinned (OpenSpec.ofChange eaLengthsWrong)

/-- 'partylinelaw02.EaAddress': WHATEVER THE INPUT: true; the input reads as it did. -/
def eaAddressSpec : ChangeSpec := { name := "eaAddress", fn := fun _ => fun
  | [d1, d2, d3] => { results := [.lit (.bool true)], args := [d1, d2, d3] }
  | _ => none }
def eaAddressRow : OpenClaim := { program := "ytmnflfjcfkblbaa", sum := "d3a3dd5af317a2c03e82455c27f9b0df531f6271e41a4644c85b7ff72f1161d1", func := "partyline/partylinelaw02.EaAddress", spec := "eaAddress", apart := false }
def EaAddressSaid : Prop := eaAddressRow.holds Try.pinned (OpenSpec.ofChange eaAddressSpec)

/-- ITS FALSE NEIGHBOUR: 'it returns false'. Refute it at one input. -/
def eaAddressWrong : ChangeSpec := { name := "eaAddress", fn := fun _ => fun
  | [d1, d2, d3] => { results := [.lit (.bool false)], args := [d1, d2, d3] }
  | _ => none }
def EaAddressWrongFalsely : Prop := eaAddressRow.holds Try.pinned (OpenSpec.ofChange eaAddressWrong)

/-- 'partylinelaw02.EaBack': WHATEVER THE INPUT: true; the input reads as it did. -/
def eaBackSpec : ChangeSpec := { name := "eaBack", fn := fun _ => fun
  | [d1, d2, d3] => { results := [.lit (.bool true)], args := [d1, d2, d3] }
  | _ => none }
def eaBackRow : OpenClaim := { program := "ytmnflfjcfkblbaa", sum := "d3a3dd5af317a2c03e82455c27f9b0df531f6271e41a4644c85b7ff72f1161d1", func := "partyline/partylinelaw02.EaBack", spec := "eaBack", apart := false }
def EaBackSaid : Prop := eaBackRow.holds Try.pinned (OpenSpec.ofChange eaBackSpec)

/-- ITS FALSE NEIGHBOUR: 'it returns false'. Refute it at one input. -/
def eaBackWrong : ChangeSpec := { name := "eaBack", fn := fun _ => fun
  | [d1, d2, d3] => { results := [.lit (.bool false)], args := [d1, d2, d3] }
  | _ => none }
def EaBackWrongFalsely : Prop := eaBackRow.holds Try.pinned (OpenSpec.ofChange eaBackWrong)

/-- 'partylinelaw02.EaKnown': WHATEVER THE INPUT: true; the input reads as it did. -/
def eaKnownSpec : ChangeSpec := { name := "eaKnown", fn := fun _ => fun
  | [] => { results := [.lit (.bool true)], args := [] }
  | _ => none }
def eaKnownRow : OpenClaim := { program := "ytmnflfjcfkblbaa", sum := "d3a3dd5af317a2c03e82455c27f9b0df531f6271e41a4644c85b7ff72f1161d1", func := "partyline/partylinelaw02.EaKnown", spec := "eaKnown", apart := false }
def EaKnownSaid : Prop := eaKnownRow.holds Try.pinned (OpenSpec.ofChange eaKnownSpec)

/-- ITS FALSE NEIGHBOUR: 'it returns false'. Refute it at one input. -/
def eaKnownWrong : ChangeSpec := { name := "eaKnown", fn := fun _ => fun
  | [] => { results := [.lit (.bool false)], args := [] }
  | _ => none }
def EaKnownWrongFalsely : Prop := eaKnownRow.holds Try.pinned (OpenSpec.ofChange eaKnownWrong)

/-- 'partylinelaw09.MscPut': WHATEVER THE INPUT: true; the input reads as it did. -/
def mscPutSpec : ChangeSpec := { name := "mscPut", fn := fun _ => fun
  | [d] => { results := [.lit (.bool true)], args := [d] }
  | _ => none }
def mscPutRow : OpenClaim := { program := "ytmnflfjcfkblbaa", sum := "d3a3dd5af317a2c03e82455c27f9b0df531f6271e41a4644c85b7ff72f1161d1", func := "partyline/partylinelaw09.MscPut", spec := "mscPut", unfollowed := true, recurses := true, apart := false }
def MscPutSaid : Prop := mscPutRow.holds Try.pinned (OpenSpec.ofChange mscPutSpec)

/-- ITS FALSE NEIGHBOUR: 'it returns false'. Refute it at one input. -/
def mscPutWrong : ChangeSpec := { name := "mscPut", fn := fun _ => fun
  | [d] => { results := [.lit (.bool false)], args := [d] }
  | _ => none }
def MscPutWrongFalsely : Prop := mscPutRow.holds Try.pinned (OpenSpec.ofChange mscPutWrong)

/-- 'partylinelaw09.MscGet': WHATEVER THE INPUT: true; the input reads as it did. -/
def mscGetSpec : ChangeSpec := { name := "mscGet", fn := fun _ => fun
  | [d] => { results := [.lit (.bool true)], args := [d] }
  | _ => none }
def mscGetRow : OpenClaim := { program := "ytmnflfjcfkblbaa", sum := "d3a3dd5af317a2c03e82455c27f9b0df531f6271e41a4644c85b7ff72f1161d1", func := "partyline/partylinelaw09.MscGet", spec := "mscGet", unfollowed := true, recurses := true, apart := false }
def MscGetSaid : Prop := mscGetRow.holds Try.pinned (OpenSpec.ofChange mscGetSpec)

/-- ITS FALSE NEIGHBOUR: 'it returns false'. Refute it at one input. -/
def mscGetWrong : ChangeSpec := { name := "mscGet", fn := fun _ => fun
  | [d] => { results := [.lit (.bool false)], args := [d] }
  | _ => none }
def MscGetWrongFalsely : Prop := mscGetRow.holds Try.pinned (OpenSpec.ofChange mscGetWrong)

/-- 'partylinelaw09.MscBack': WHATEVER THE INPUT: true; the input reads as it did. -/
def mscBackSpec : ChangeSpec := { name := "mscBack", fn := fun _ => fun
  | [d1, d2, d3] => { results := [.lit (.bool true)], args := [d1, d2, d3] }
  | _ => none }
def mscBackRow : OpenClaim := { program := "ytmnflfjcfkblbaa", sum := "d3a3dd5af317a2c03e82455c27f9b0df531f6271e41a4644c85b7ff72f1161d1", func := "partyline/partylinelaw09.MscBack", spec := "mscBack", unfollowed := true, recurses := true, apart := false }
def MscBackSaid : Prop := mscBackRow.holds Try.pinned (OpenSpec.ofChange mscBackSpec)

/-- ITS FALSE NEIGHBOUR: 'it returns false'. Refute it at one input. -/
def mscBackWrong : ChangeSpec := { name := "mscBack", fn := fun _ => fun
  | [d1, d2, d3] => { results := [.lit (.bool false)], args := [d1, d2, d3] }
  | _ => none }
def MscBackWrongFalsely : Prop := mscBackRow.holds Try.pinned (OpenSpec.ofChange mscBackWrong)

/-- 'partylinelaw09.MscBits': WHATEVER THE INPUT: true; the input reads as it did. -/
def mscBitsSpec : ChangeSpec := { name := "mscBits", fn := fun _ => fun
  | [d] => { results := [.lit (.bool true)], args := [d] }
  | _ => none }
def mscBitsRow : OpenClaim := { program := "ytmnflfjcfkblbaa", sum := "d3a3dd5af317a2c03e82455c27f9b0df531f6271e41a4644c85b7ff72f1161d1", func := "partyline/partylinelaw09.MscBits", spec := "mscBits", unfollowed := true, recurses := true, apart := false }
def MscBitsSaid : Prop := mscBitsRow.holds Try.pinned (OpenSpec.ofChange mscBitsSpec)

/-- ITS FALSE NEIGHBOUR: 'it returns false'. Refute it at one input. -/
def mscBitsWrong : ChangeSpec := { name := "mscBits", fn := fun _ => fun
  | [d] => { results := [.lit (.bool false)], args := [d] }
  | _ => none }
def MscBitsWrongFalsely : Prop := mscBitsRow.holds Try.pinned (OpenSpec.ofChange mscBitsWrong)

/-- 'partylinelaw09.MscKnown': WHATEVER THE INPUT: true; the input reads as it did. -/
def mscKnownSpec : ChangeSpec := { name := "mscKnown", fn := fun _ => fun
  | [] => { results := [.lit (.bool true)], args := [] }
  | _ => none }
def mscKnownRow : OpenClaim := { program := "ytmnflfjcfkblbaa", sum := "d3a3dd5af317a2c03e82455c27f9b0df531f6271e41a4644c85b7ff72f1161d1", func := "partyline/partylinelaw09.MscKnown", spec := "mscKnown", unfollowed := true, recurses := true, apart := false }
def MscKnownSaid : Prop := mscKnownRow.holds Try.pinned (OpenSpec.ofChange mscKnownSpec)

/-- ITS FALSE NEIGHBOUR: 'it returns false'. Refute it at one input. -/
def mscKnownWrong : ChangeSpec := { name := "mscKnown", fn := fun _ => fun
  | [] => { results := [.lit (.bool false)], args := [] }
  | _ => none }
def MscKnownWrongFalsely : Prop := mscKnownRow.holds Try.pinned (OpenSpec.ofChange mscKnownWrong)

/- THE SECOND FORM. 'bulk': how many values and letters a reading holds, each counted each time it is reached (what is shared counts as often as it is met; a slice's spare places count too). A statement '..UptoSaid' is the law's where the arguments, and the package variables that the reading takes, are together of bulk at most 1048576: NARROWER than '..Said'. Prove '..Said' where nothing that the law and all that it calls make is longer than what came in: it says more and counts as full. Else prove '..UptoSaid'. A law counts once. -/
mutual
def uptoBulk {H : Type} : DataW H → Nat
  | .lit (.string bytes) => bytes.length + 1
  | .lit _ => 1
  | .nil => 1
  | .ptr d => uptoBulk d + 1
  | .slice elems spare => uptoBulkAll elems + uptoBulkAll spare + 1
  | .agg parts => uptoBulkAll parts + 1
  | .iface _ d => uptoBulk d + 1
  | .map entries => uptoBulkEntries entries + 1
  | .held _ => 1
def uptoBulkAll {H : Type} : List (DataW H) → Nat
  | [] => 0
  | d :: r => uptoBulk d + uptoBulkAll r
def uptoBulkEntries {H : Type} : List (Lit × DataW H) → Nat
  | [] => 0
  | x :: r => uptoBulkEntry x + uptoBulkEntries r
def uptoBulkEntry {H : Type} : Lit × DataW H → Nat
  | (.string bytes, d) => bytes.length + uptoBulk d + 1
  | (_, d) => uptoBulk d + 1
 end
def uptoSmall : (H : Type) → List (DataW H) → Bool := fun _ ds => decide (uptoBulkAll ds ≤ 1048576)
def OpenSpec.upto (s : _root_.Go.ChangeSpec) : _root_.Go.OpenSpec := { _root_.Go.OpenSpec.ofChange s with cond := some uptoSmall }

/-- 'partylinelaw02.EaLengths', WHERE WHAT IT READS IS OF BULK AT MOST 1048576: true; the input reads as it did. -/
def eaLengthsUptoRow : OpenClaim := { program := "ytmnflfjcfkblbaa", sum := "d3a3dd5af317a2c03e82455c27f9b0df531f6271e41a4644c85b7ff72f1161d1", func := "partyline/partylinelaw02.EaLengths", spec := "eaLengths", apart := false, narrowed := true }
def EaLengthsUptoSaid : Prop := eaLengthsUptoRow.holds Try.pinned (OpenSpec.upto eaLengthsSpec)

/-- 'partylinelaw02.EaAddress', WHERE WHAT IT READS IS OF BULK AT MOST 1048576: true; the input reads as it did. -/
def eaAddressUptoRow : OpenClaim := { program := "ytmnflfjcfkblbaa", sum := "d3a3dd5af317a2c03e82455c27f9b0df531f6271e41a4644c85b7ff72f1161d1", func := "partyline/partylinelaw02.EaAddress", spec := "eaAddress", apart := false, narrowed := true }
def EaAddressUptoSaid : Prop := eaAddressUptoRow.holds Try.pinned (OpenSpec.upto eaAddressSpec)

/-- 'partylinelaw02.EaBack', WHERE WHAT IT READS IS OF BULK AT MOST 1048576: true; the input reads as it did. -/
def eaBackUptoRow : OpenClaim := { program := "ytmnflfjcfkblbaa", sum := "d3a3dd5af317a2c03e82455c27f9b0df531f6271e41a4644c85b7ff72f1161d1", func := "partyline/partylinelaw02.EaBack", spec := "eaBack", apart := false, narrowed := true }
def EaBackUptoSaid : Prop := eaBackUptoRow.holds Try.pinned (OpenSpec.upto eaBackSpec)

/-- 'partylinelaw02.EaKnown', WHERE WHAT IT READS IS OF BULK AT MOST 1048576: true; the input reads as it did. -/
def eaKnownUptoRow : OpenClaim := { program := "ytmnflfjcfkblbaa", sum := "d3a3dd5af317a2c03e82455c27f9b0df531f6271e41a4644c85b7ff72f1161d1", func := "partyline/partylinelaw02.EaKnown", spec := "eaKnown", apart := false, narrowed := true }
def EaKnownUptoSaid : Prop := eaKnownUptoRow.holds Try.pinned (OpenSpec.upto eaKnownSpec)

/-- 'partylinelaw09.MscPut', WHERE WHAT IT READS IS OF BULK AT MOST 1048576: true; the input reads as it did. -/
def mscPutUptoRow : OpenClaim := { program := "ytmnflfjcfkblbaa", sum := "d3a3dd5af317a2c03e82455c27f9b0df531f6271e41a4644c85b7ff72f1161d1", func := "partyline/partylinelaw09.MscPut", spec := "mscPut", unfollowed := true, recurses := true, apart := false, narrowed := true }
def MscPutUptoSaid : Prop := mscPutUptoRow.holds Try.pinned (OpenSpec.upto mscPutSpec)

/-- 'partylinelaw09.MscGet', WHERE WHAT IT READS IS OF BULK AT MOST 1048576: true; the input reads as it did. -/
def mscGetUptoRow : OpenClaim := { program := "ytmnflfjcfkblbaa", sum := "d3a3dd5af317a2c03e82455c27f9b0df531f6271e41a4644c85b7ff72f1161d1", func := "partyline/partylinelaw09.MscGet", spec := "mscGet", unfollowed := true, recurses := true, apart := false, narrowed := true }
def MscGetUptoSaid : Prop := mscGetUptoRow.holds Try.pinned (OpenSpec.upto mscGetSpec)

/-- 'partylinelaw09.MscBack', WHERE WHAT IT READS IS OF BULK AT MOST 1048576: true; the input reads as it did. -/
def mscBackUptoRow : OpenClaim := { program := "ytmnflfjcfkblbaa", sum := "d3a3dd5af317a2c03e82455c27f9b0df531f6271e41a4644c85b7ff72f1161d1", func := "partyline/partylinelaw09.MscBack", spec := "mscBack", unfollowed := true, recurses := true, apart := false, narrowed := true }
def MscBackUptoSaid : Prop := mscBackUptoRow.holds Try.pinned (OpenSpec.upto mscBackSpec)

/-- 'partylinelaw09.MscBits', WHERE WHAT IT READS IS OF BULK AT MOST 1048576: true; the input reads as it did. -/
def mscBitsUptoRow : OpenClaim := { program := "ytmnflfjcfkblbaa", sum := "d3a3dd5af317a2c03e82455c27f9b0df531f6271e41a4644c85b7ff72f1161d1", func := "partyline/partylinelaw09.MscBits", spec := "mscBits", unfollowed := true, recurses := true, apart := false, narrowed := true }
def MscBitsUptoSaid : Prop := mscBitsUptoRow.holds Try.pinned (OpenSpec.upto mscBitsSpec)

/-- 'partylinelaw09.MscKnown', WHERE WHAT IT READS IS OF BULK AT MOST 1048576: true; the input reads as it did. -/
def mscKnownUptoRow : OpenClaim := { program := "ytmnflfjcfkblbaa", sum := "d3a3dd5af317a2c03e82455c27f9b0df531f6271e41a4644c85b7ff72f1161d1", func := "partyline/partylinelaw09.MscKnown", spec := "mscKnown", unfollowed := true, recurses := true, apart := false, narrowed := true }
def MscKnownUptoSaid : Prop := mscKnownUptoRow.holds Try.pinned (OpenSpec.upto mscKnownSpec)

end Rows
end Go.Proofs.Ytmnflfjcfkblbaa
