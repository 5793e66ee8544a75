/-
  ArqKnown: rounds of its loops, as trees.
  No condition.
-/
import Derived.Test.YtlbkficdelepeaaAkM
namespace Go.Proofs.Ytlbkficdelepeaa.Ab
set_option linter.unusedSimpArgs false
set_option linter.unusedVariables false
open Go
noncomputable section
abbrev nBk_0 : Tm := (.ib .add .i64 (.ib .mul .i64 (vt 0) (.ci 31)) (.ib .mul .i64 (.ib .mul .i64 (vt 1) (vt 1)) (.ci 7)))
abbrev nBk_1 : Tm := (.ib .rem .i64 (.ib .add .i64 nBk_0 (.ib .mul .i64 (vt 1) (vt 0))) (.ci 997))
abbrev nBk_2 : Tm := (tp [(.wrap .u8 (.ib .quo .i64 nBk_1 (.ci 7))), (.ci 0), (.ib .eql .i64 (.ib .rem .i64 nBk_1 (.ci 2)) (.ci 0)), (.wrap .u8 (.ib .add .i64 (.ci 7) (.ib .rem .i64 nBk_1 (.ci 4)))), (.ib .eql .i64 (.ib .rem .i64 nBk_1 (.ci 3)) (.ci 0)), (.wrap .u8 (.ib .rem .i64 nBk_1 (.ci 8))), (.wrap .u8 (.ib .rem .i64 (.ib .quo .i64 nBk_1 (.ci 64)) (.ci 2))), (.cs [105])])
abbrev nBk_3 : Tm := (tp [(.wrap .u8 (.ib .quo .i64 nBk_1 (.ci 5))), (.ib .eql .i64 (.ib .rem .i64 nBk_1 (.ci 2)) (.ci 0)), (.ib .eql .i64 (.ib .rem .i64 nBk_1 (.ci 4)) (.ci 0))])
abbrev nBk_4 : Tm := (tp [(.wrap .u8 (.ib .quo .i64 nBk_1 (.ci 7))), (.ci 0), (.ib .eql .i64 (.ib .rem .i64 nBk_1 (.ci 2)) (.ci 0)), (.wrap .u8 (.ib .add .i64 (.ci 7) (.ib .rem .i64 nBk_1 (.ci 4)))), (.ib .eql .i64 (.ib .rem .i64 nBk_1 (.ci 3)) (.ci 0)), (.wrap .u8 (.ib .rem .i64 nBk_1 (.ci 8))), (.wrap .u8 (.ib .rem .i64 (.ib .quo .i64 nBk_1 (.ci 3)) (.ci 8))), (.cs [105])])
def nBk : (Tree (AX × Option Eqs)) :=
 (.fork (.ib .lss .i64 (vt 1) (.ci 24))
 (.fork (.ib .lss .i64 (.ib .rem .i64 nBk_1 (.ci 5)) (.ci 3))
  (.fork (.ib .lss .i64 (.llen (vt 2)) (.ci 4294967295))
   (.fork (.ib .lss .i64 (.llen (vt 3)) (.ci 4294967295))
    (.leaf (.normal, (some [(.sI, (vt 1), (.ib .add .i64 (vt 1) (.ci 1))), (.sI, (.llen (vt 2)), (.llen (.lapp (vt 2) (.row nBk_2)))), (.sI, (.llen (vt 3)), (.llen (.lapp (vt 3) (.row nBk_3)))), (.sL, (vt 3), (.lapp (vt 3) (.row nBk_3))), (.sL, (vt 2), (.lapp (vt 2) (.row nBk_2)))])))
    .fail)
   .fail)
  (.fork (.ib .lss .i64 (.llen (vt 2)) (.ci 4294967295))
   (.fork (.ib .lss .i64 (.llen (vt 3)) (.ci 4294967295))
    (.leaf (.normal, (some [(.sI, (vt 1), (.ib .add .i64 (vt 1) (.ci 1))), (.sI, (.llen (vt 2)), (.llen (.lapp (vt 2) (.row nBk_4)))), (.sI, (.llen (vt 3)), (.llen (.lapp (vt 3) (.row nBk_3)))), (.sL, (vt 3), (.lapp (vt 3) (.row nBk_3))), (.sL, (vt 2), (.lapp (vt 2) (.row nBk_4)))])))
    .fail)
   .fail))
 (.leaf ((.exit 2), (some [(.sI, (.llen (vt 2)), (.llen (vt 2))), (.sI, (.llen (vt 3)), (.llen (vt 3))), (.sL, (vt 3), (vt 3)), (.sL, (vt 2), (vt 2))]))))
set_option maxRecDepth 100000 in
theorem nBk_eq : rBk = nBk := by kernel_rfl
abbrev nAk_0 : Tm := (.and (.ib .eql .i64 (.llen (.cb false)) (.ci 0)) (.ib .eql .i64 (.llen (.cb false)) (.ci 0)))
abbrev nAk_1 : Tm := (tp [(vt 3), (.ib .add .i64 (.ci 1) (.ib .rem .i64 (vt 0) (.ci 7))), (.ib .rem .i64 (vt 0) (.ci 5)), (.ib .add .i64 (.ci 1) (.ib .rem .i64 (vt 0) (.ci 6)))])
def nAk : (Tree (AX × Option Eqs)) :=
 (.fork (.ib .lss .i64 (vt 0) (.ci 400))
 (.fork nAk_0
  (.fork (.app 3904 (vt 2))
   (.fork (.ib .eql .i64 (.ib .rem .i64 (vt 0) (.ci 4)) (.ci 0))
    (.fork (.app 3968 (vt 3))
     (.fork (.and (.app 3968 (vt 3)) (.app 3840 nAk_1))
      (.leaf (.normal, (some [(.sI, (vt 0), (.ib .add .i64 (vt 0) (.ci 1)))])))
      .fail)
     .fail)
    (.leaf (.normal, (some [(.sI, (vt 0), (.ib .add .i64 (vt 0) (.ci 1)))]))))
   .fail)
  .fail)
 (.leaf ((.exit 0), (some []))))
set_option maxRecDepth 100000 in
theorem nAk_eq : rAk = nAk := by kernel_rfl
set_option maxRecDepth 100000 in
theorem lawAk_all : Tree.allT lawAk = true := by kernel_rfl
end
end Go.Proofs.Ytlbkficdelepeaa.Ab
