/-
  ChannelFails: its loop's state, with letters.
  No condition: definitions.
-/
import Derived.Test.YtenkabjkgngcdaaGreatAbF
namespace Go.Proofs.YtenkabjkgngcdaaGreat.Ab
set_option linter.unusedSimpArgs false
set_option linter.unusedVariables false
open Go
noncomputable section
abbrev vt (n : Nat) : Tm := .var n
def zsN (n : Nat) (l : List AV) : List AV := @Nat.rec (fun _ => List AV) l (fun _ r => .int .u8 0 :: r) n
/-- The letters: 0 n2, 1 t1, 2 n, 3 said, 4 tries, 5 left, 6 to 9 what it asks (DLCI, Command, Kind, PF), 10 its state, 11 its link's, 12 does it listen, 13 how many tries. -/
def cRow : List AV := [.ptr 3 0, .ptr 4 0, .ptr 5 0, .ptr 6 0, .ptr 7 0, .ptr 9 0, .ptr 10 0, .bool false, .bool false, .int .i64 4, .sint .i64 (.wrap .i64 (vt 1)), .int .i64 3, .sint .i64 (.wrap .i64 (vt 0)), .int .i64 2, .int .i64 9, .int .u8 1,
  .sint .u8 (vt 10), .bool false, .nilSlice, .sint .i64 (vt 5), .int .u8 0, .bool false, .int .u8 0, .bool false, .int .u8 0, .int .u8 0, .str [], .sint .u8 (vt 6), .sbool (vt 7), .sint .u8 (vt 8), .sbool (vt 9), .int .u8 0, .int .u8 0, .str []]
def lRow : List AV := [.sint .u8 (vt 11), .sbool (vt 12), .sint .i64 (vt 4), .sint .i64 (vt 13)]
def aRow : List AV := [.int .u8 0, .int .u8 0, .int .u8 0, .int .i64 0, .int .i64 0, .int .i64 0, .int .i64 0, .bool false, .bool false, .bool false, .bool false, .bool false, .bool false, .int .i64 2, .sint .i64 (.wrap .i64 (vt 0)), .sint .i64 (.wrap .i64 (vt 1)), .nilSlice, .int .i64 0, .bool false, .bool false, .bool false, .bool false]
def objsF : List (Nat × AObj) := [(2, .row cRow true false), (3, .row lRow true true), (4, .row aRow true true), (5, .row [.bool false] true true), (6, .row [.int .i64 9, .int .i64 9] true true), (7, .row [.int .i64 0, .int .i64 9, .int .i64 0] true true),
  (9, .row [.slice 8 0 9 (.known 9), .int .i64 0, .int .i64 0] true false), (8, .row (zsN 9 []) true true), (10, .row (zsN 4096 [.int .i64 0, .int .i64 0, .int .i64 9, .int .i64 0]) true true)]
def TF : St := ⟨93, [(9, .sint .i64 (vt 2)), (8, .sint .i64 (vt 3)), (6, .ptr 2 0), (0, .sint .u8 (vt 0)), (1, .sint .u8 (vt 1))], ⟨20, objsF, [], []⟩, []⟩
def FF : St := ⟨93, [(8, .sint .i64 (vt 3)), (6, .ptr 2 0), (0, .sint .u8 (vt 0))], ⟨20, [(2, .row cRow true false)], [], []⟩, []⟩
def fF : FuncId := 4
end
end Go.Proofs.YtenkabjkgngcdaaGreat.Ab
