/-
  Strings as lists of bytes.
  No condition.
-/
import Derived.Test.YtnncgjhgmmdilaaGreatDoorProg
import Derived.WalkKit
import Derived.WalkLawsBesides
import Derived.WalkSpells
import Derived.Outline
import Derived.Laws.BitsAllLaws
import Derived.Laws.BytesArg
import Derived.Laws.IdiomStrings
import Derived.Lib.BufferRead
import Derived.Lib.Hide
import Derived.Deep.QuietTactic
import Derived.BigQuiet
import Derived.Deep.RegionHeld3
import Derived.Deep.RegionWith
import Derived.IntWalk
import Derived.OwnWalk
import Derived.Laws.MakeOwn
import Derived.Laws.Bits128
namespace Go.Proofs.YtnncgjhgmmdilaaGreatDoor
set_option linter.unusedSimpArgs false
set_option linter.unusedVariables false
open Go.RowKit

/-- A string, by the list of its bytes. -/
def S (l : List UInt8) : ByteArray := ⟨l.toArray⟩
@[go_sem] theorem S_toList (l : List UInt8) : (S l).toList = l := by simp [S, ByteArray.toList_eq]
@[go_sem] theorem S_size (l : List UInt8) : (S l).size = l.length := rfl
@[go_sem] theorem S_get (l : List UInt8) (i : Nat) (h : i < (S l).size) : (S l)[i]'h = l[i]'(S_size l ▸ h) := by simp [S]; rfl
theorem S_of (s : ByteArray) : s = S s.data.toList := rfl
theorem S_inj {a b : List UInt8} (h : S a = S b) : a = b := by
  have := congrArg ByteArray.toList h
  simpa [S_toList] using this
@[go_sem] theorem S_append (a b : List UInt8) : S a ++ S b = S (a ++ b) := by
  apply ByteArray.ext; simp [S]
@[go_sem] theorem S_extract (l : List UInt8) (a b : Nat) : (S l).extract a b = S ((l.drop a).take (b - a)) := by
  apply ByteArray.ext; simp [S]

attribute [go_sem] List.drop_zero List.take_succ_cons List.take_zero List.drop_succ_cons List.take_nil List.drop_nil List.cons_append List.nil_append List.append_nil
attribute [go_sem] List.getElem_cons_zero List.getElem_cons_succ List.length_cons List.length_nil

end Go.Proofs.YtnncgjhgmmdilaaGreatDoor
