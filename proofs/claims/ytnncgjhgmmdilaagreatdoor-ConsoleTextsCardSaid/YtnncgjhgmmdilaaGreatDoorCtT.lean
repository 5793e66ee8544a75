/-
  ConsoleTexts: the trees of its functions' rounds, and of the functions (printed by a program).
  No condition.
-/
import Derived.Test.YtnncgjhgmmdilaaGreatDoorCtA
namespace Go.Proofs.YtnncgjhgmmdilaaGreatDoor.Ab
set_option linter.unusedSimpArgs false
set_option linter.unusedVariables false
open Go
noncomputable section
abbrev rCB_0 : Tm := (.and (.ib .leq .i64 (.ci 0) (vt 1)) (.ib .lss .i64 (vt 1) (.len (vt 0))))
abbrev rCB_1 : Tm := (.and (.ib .leq .i64 (.ci 0) (.ib .shr .u8 (.at (vt 0) (vt 1)) (.ci 4))) (.ib .lss .i64 (.ib .shr .u8 (.at (vt 0) (vt 1)) (.ci 4)) (.ci 16)))
abbrev rCB_2 : Tm := (.and (.ib .leq .i64 (.ci 0) (.ib .and .u8 (.at (vt 0) (vt 1)) (.ci 15))) (.ib .lss .i64 (.ib .and .u8 (.at (vt 0) (vt 1)) (.ci 15)) (.ci 16)))
abbrev rCB_3 : Tm := (.cs [48, 49, 50, 51, 52, 53, 54, 55, 56, 57, 97, 98, 99, 100, 101, 102])
abbrev rCB_4 : Tm := (.lapp (.row (tp [(.at rCB_3 (.ib .shr .u8 (.at (vt 0) (vt 1)) (.ci 4)))])) (.row (tp [(.at rCB_3 (.ib .and .u8 (.at (vt 0) (vt 1)) (.ci 15)))])))
def rCB : (Tree (AX × Option Eqs)) :=
 (.fork (.ib .lss .i64 (vt 1) (.len (vt 0)))
 (.fork rCB_0
  (.fork rCB_1
   (.fork rCB_2
    (.fork (.ib .lss .i64 (.llen (vt 2)) (.ci 4294967294))
     (.leaf (.normal, (some [(.sI, (vt 1), (.ib .add .i64 (vt 1) (.ci 1))), (.sI, (.llen (vt 2)), (.llen (.lapp (vt 2) rCB_4))), (.sL, (vt 2), (.lapp (vt 2) rCB_4))])))
     .fail)
    .fail)
   .fail)
  .fail)
 (.leaf ((.exit 0), (some [(.sI, (.llen (vt 2)), (.llen (vt 2))), (.sL, (vt 2), (vt 2))]))))
set_option maxRecDepth 100000 in
theorem rCB_eq : rndC fCB 3 1 TCB FCB = rCB := by kernel_rfl
abbrev rRB_0 : Tm := (.and (.ib .leq .i64 (.ci 0) (vt 1)) (.ib .lss .i64 (vt 1) (.len (vt 0))))
abbrev rRB_1 : Tm := (.ib .leq .i64 (.ib .quo .u8 (.at (vt 0) (vt 1)) (.ci 16)) (.ib .add .u8 (.ib .quo .u8 (.at (vt 0) (vt 1)) (.ci 16)) (.ci 1)))
abbrev rRB_2 : Tm := (.and (.ib .leq .i64 (.ci 0) (.ib .quo .u8 (.at (vt 0) (vt 1)) (.ci 16))) rRB_1)
abbrev rRB_3 : Tm := (.ib .leq .i64 (.ib .add .u8 (.ib .quo .u8 (.at (vt 0) (vt 1)) (.ci 16)) (.ci 1)) (.ci 16))
abbrev rRB_4 : Tm := (.cs [48, 49, 50, 51, 52, 53, 54, 55, 56, 57, 97, 98, 99, 100, 101, 102])
abbrev rRB_5 : Tm := (.cut rRB_4 (.ib .quo .u8 (.at (vt 0) (vt 1)) (.ci 16)) (.ib .add .u8 (.ib .quo .u8 (.at (vt 0) (vt 1)) (.ci 16)) (.ci 1)))
abbrev rRB_6 : Tm := (.ib .leq .i64 (.plus (.len (vt 2)) (.len rRB_5)) (.ci 9223372036854775807))
abbrev rRB_7 : Tm := (.ib .leq .i64 (.ib .rem .u8 (.at (vt 0) (vt 1)) (.ci 16)) (.ib .add .u8 (.ib .rem .u8 (.at (vt 0) (vt 1)) (.ci 16)) (.ci 1)))
abbrev rRB_8 : Tm := (.and (.ib .leq .i64 (.ci 0) (.ib .rem .u8 (.at (vt 0) (vt 1)) (.ci 16))) rRB_7)
abbrev rRB_9 : Tm := (.ib .leq .i64 (.ib .add .u8 (.ib .rem .u8 (.at (vt 0) (vt 1)) (.ci 16)) (.ci 1)) (.ci 16))
abbrev rRB_10 : Tm := (.cut rRB_4 (.ib .rem .u8 (.at (vt 0) (vt 1)) (.ci 16)) (.ib .add .u8 (.ib .rem .u8 (.at (vt 0) (vt 1)) (.ci 16)) (.ci 1)))
abbrev rRB_11 : Tm := (.ib .leq .i64 (.plus (.len (.sb .add (vt 2) rRB_5)) (.len rRB_10)) (.ci 9223372036854775807))
def rRB : (Tree (AX × Option Eqs)) :=
 (.fork (.ib .lss .i64 (vt 1) (.len (vt 0)))
 (.fork rRB_0
  (.fork (.and rRB_2 rRB_3)
   (.fork rRB_6
    (.fork (.and rRB_8 rRB_9)
     (.fork rRB_11
      (.leaf (.normal, (some [(.sI, (vt 1), (.ib .add .i64 (vt 1) (.ci 1))), (.sS, (vt 2), (.sb .add (.sb .add (vt 2) rRB_5) rRB_10))])))
      .fail)
     .fail)
    .fail)
   .fail)
  .fail)
 (.leaf ((.exit 0), (some [(.sS, (vt 2), (vt 2))]))))
set_option maxRecDepth 100000 in
theorem rRB_eq : rndC fRB 0 1 TRB FRB = rRB := by kernel_rfl
abbrev rCT_0 : Tm := (.and (.ib .leq .i64 (.ci 0) (vt 1)) (.ib .lss .i64 (vt 1) (.len (vt 3))))
abbrev rCT_1 : Tm := (.and (.ib .leq .u8 (.ci 0) (.at (vt 3) (vt 1))) (.ib .leq .u8 (.at (vt 3) (vt 1)) (.ci 255)))
abbrev rCT_2 : Tm := (.and (.ib .leq .i64 (.ci 0) (.ib .add .i64 (vt 1) (.ci 1))) (.ib .lss .i64 (.ib .add .i64 (vt 1) (.ci 1)) (.len (vt 3))))
abbrev rCT_3 : Tm := (.and (.ib .leq .u8 (.ci 0) (.at (vt 3) (.ib .add .i64 (vt 1) (.ci 1)))) (.ib .leq .u8 (.at (vt 3) (.ib .add .i64 (vt 1) (.ci 1))) (.ci 255)))
abbrev rCT_4 : Tm := (.ib .lss .i64 (.app 0 (.at (vt 3) (.ib .add .i64 (vt 1) (.ci 1)))) (.ci 0))
abbrev rCT_5 : Tm := (.ib .or .i64 (.ib .shl .i64 (.app 0 (.at (vt 3) (vt 1))) (.ci 4)) (.app 0 (.at (vt 3) (.ib .add .i64 (vt 1) (.ci 1)))))
def rCT : (Tree (AX × Option Eqs)) :=
 (.fork (.ib .lss .i64 (vt 1) (.len (vt 3)))
 (.fork rCT_0
  (.fork rCT_1
   (.fork rCT_2
    (.fork rCT_3
     (.fork (.ib .lss .i64 (.app 0 (.at (vt 3) (vt 1))) (.ci 0))
      (.leaf (.ret, (some [(.sI, (.llen (vt 2)), (.llen (vt 2))), (.sL, (vt 2), (vt 2))])))
      (.fork rCT_4
       (.leaf (.ret, (some [(.sI, (.llen (vt 2)), (.llen (vt 2))), (.sL, (vt 2), (vt 2))])))
       (.fork (.ib .lss .i64 (.llen (vt 2)) (.ci 4294967295))
        (.leaf (.normal, (some [(.sI, (vt 1), (.ib .add .i64 (vt 1) (.ci 2))), (.sI, (.llen (vt 2)), (.llen (.lapp (vt 2) (.row (tp [(.wrap .u8 rCT_5)]))))), (.sS, (vt 3), (vt 3)), (.sL, (vt 2), (.lapp (vt 2) (.row (tp [(.wrap .u8 rCT_5)]))))])))
        .fail)))
     .fail)
    .fail)
   .fail)
  .fail)
 (.leaf ((.exit 0), (some [(.sI, (.llen (vt 2)), (.llen (vt 2))), (.sL, (vt 2), (vt 2))]))))
set_option maxRecDepth 100000 in
theorem rCT_eq : rndC fCT 1 1 TCT FCT = rCT := by kernel_rfl
abbrev rCTr_0 : Tm := (.and (.ib .leq .i64 (.ci 0) (vt 1)) (.ib .lss .i64 (vt 1) (.len (vt 3))))
abbrev rCTr_1 : Tm := (.and (.ib .leq .u8 (.ci 0) (.at (vt 3) (vt 1))) (.ib .leq .u8 (.at (vt 3) (vt 1)) (.ci 255)))
abbrev rCTr_2 : Tm := (.and (.ib .leq .i64 (.ci 0) (.ib .add .i64 (vt 1) (.ci 1))) (.ib .lss .i64 (.ib .add .i64 (vt 1) (.ci 1)) (.len (vt 3))))
abbrev rCTr_3 : Tm := (.and (.ib .leq .u8 (.ci 0) (.at (vt 3) (.ib .add .i64 (vt 1) (.ci 1)))) (.ib .leq .u8 (.at (vt 3) (.ib .add .i64 (vt 1) (.ci 1))) (.ci 255)))
abbrev rCTr_4 : Tm := (.ib .lss .i64 (.app 0 (.at (vt 3) (.ib .add .i64 (vt 1) (.ci 1)))) (.ci 0))
abbrev rCTr_5 : Tm := (.ib .or .i64 (.ib .shl .i64 (.app 0 (.at (vt 3) (vt 1))) (.ci 4)) (.app 0 (.at (vt 3) (.ib .add .i64 (vt 1) (.ci 1)))))
def rCTr : (Tree (AX × Option Eqs)) :=
 (.fork (.ib .lss .i64 (vt 1) (.len (vt 3)))
 (.fork rCTr_0
  (.fork rCTr_1
   (.fork rCTr_2
    (.fork rCTr_3
     (.fork (.ib .lss .i64 (.app 0 (.at (vt 3) (vt 1))) (.ci 0))
      (.leaf (.ret, (some [])))
      (.fork rCTr_4
       (.leaf (.ret, (some [])))
       (.fork (.ib .lss .i64 (.llen (vt 2)) (.ci 4294967295))
        (.leaf (.normal, (some [(.sI, (vt 1), (.ib .add .i64 (vt 1) (.ci 2))), (.sI, (.llen (vt 2)), (.llen (.lapp (vt 2) (.row (tp [(.wrap .u8 rCTr_5)]))))), (.sS, (vt 3), (vt 3)), (.sL, (vt 2), (.lapp (vt 2) (.row (tp [(.wrap .u8 rCTr_5)]))))])))
        .fail)))
     .fail)
    .fail)
   .fail)
  .fail)
 (.leaf ((.exit 0), none)))
set_option maxRecDepth 100000 in
theorem rCTr_eq : rndC fCT 1 1 TCT FCTr = rCTr := by kernel_rfl
abbrev rRT_0 : Tm := (.and (.ib .leq .i64 (.ci 0) (vt 1)) (.ib .lss .i64 (vt 1) (.len (vt 0))))
abbrev rRT_1 : Tm := (.and (.ib .leq .u8 (.ci 0) (.at (vt 0) (vt 1))) (.ib .leq .u8 (.at (vt 0) (vt 1)) (.ci 255)))
abbrev rRT_2 : Tm := (.and (.ib .leq .i64 (.ci 0) (.ib .add .i64 (vt 1) (.ci 1))) (.ib .lss .i64 (.ib .add .i64 (vt 1) (.ci 1)) (.len (vt 0))))
abbrev rRT_3 : Tm := (.and (.ib .leq .u8 (.ci 0) (.at (vt 0) (.ib .add .i64 (vt 1) (.ci 1)))) (.ib .leq .u8 (.at (vt 0) (.ib .add .i64 (vt 1) (.ci 1))) (.ci 255)))
abbrev rRT_4 : Tm := (.ib .lss .i64 (.app 0 (.at (vt 0) (.ib .add .i64 (vt 1) (.ci 1)))) (.ci 0))
abbrev rRT_5 : Tm := (.ib .add .i64 (.ib .mul .i64 (.ci 16) (.app 0 (.at (vt 0) (vt 1)))) (.app 0 (.at (vt 0) (.ib .add .i64 (vt 1) (.ci 1)))))
def rRT : (Tree (AX × Option Eqs)) :=
 (.fork (.ib .lss .i64 (vt 1) (.len (vt 0)))
 (.fork rRT_0
  (.fork rRT_1
   (.fork rRT_2
    (.fork rRT_3
     (.fork (.ib .lss .i64 (.app 0 (.at (vt 0) (vt 1))) (.ci 0))
      (.leaf (.ret, (some [(.sI, (.llen (vt 2)), (.llen (vt 2))), (.sL, (vt 2), (vt 2))])))
      (.fork rRT_4
       (.leaf (.ret, (some [(.sI, (.llen (vt 2)), (.llen (vt 2))), (.sL, (vt 2), (vt 2))])))
       (.fork (.ib .lss .i64 (.llen (vt 2)) (.ci 4294967295))
        (.leaf (.normal, (some [(.sI, (vt 1), (.ib .add .i64 (vt 1) (.ci 2))), (.sI, (.llen (vt 2)), (.llen (.lapp (vt 2) (.row (tp [(.wrap .u8 rRT_5)]))))), (.sL, (vt 2), (.lapp (vt 2) (.row (tp [(.wrap .u8 rRT_5)]))))])))
        .fail)))
     .fail)
    .fail)
   .fail)
  .fail)
 (.leaf ((.exit 0), (some [(.sI, (.llen (vt 2)), (.llen (vt 2))), (.sL, (vt 2), (vt 2))]))))
set_option maxRecDepth 100000 in
theorem rRT_eq : rndC fRT 0 1 TRT FRT = rRT := by kernel_rfl
abbrev rRTr_0 : Tm := (.and (.ib .leq .i64 (.ci 0) (vt 1)) (.ib .lss .i64 (vt 1) (.len (vt 0))))
abbrev rRTr_1 : Tm := (.and (.ib .leq .u8 (.ci 0) (.at (vt 0) (vt 1))) (.ib .leq .u8 (.at (vt 0) (vt 1)) (.ci 255)))
abbrev rRTr_2 : Tm := (.and (.ib .leq .i64 (.ci 0) (.ib .add .i64 (vt 1) (.ci 1))) (.ib .lss .i64 (.ib .add .i64 (vt 1) (.ci 1)) (.len (vt 0))))
abbrev rRTr_3 : Tm := (.and (.ib .leq .u8 (.ci 0) (.at (vt 0) (.ib .add .i64 (vt 1) (.ci 1)))) (.ib .leq .u8 (.at (vt 0) (.ib .add .i64 (vt 1) (.ci 1))) (.ci 255)))
abbrev rRTr_4 : Tm := (.ib .lss .i64 (.app 0 (.at (vt 0) (.ib .add .i64 (vt 1) (.ci 1)))) (.ci 0))
abbrev rRTr_5 : Tm := (.ib .add .i64 (.ib .mul .i64 (.ci 16) (.app 0 (.at (vt 0) (vt 1)))) (.app 0 (.at (vt 0) (.ib .add .i64 (vt 1) (.ci 1)))))
def rRTr : (Tree (AX × Option Eqs)) :=
 (.fork (.ib .lss .i64 (vt 1) (.len (vt 0)))
 (.fork rRTr_0
  (.fork rRTr_1
   (.fork rRTr_2
    (.fork rRTr_3
     (.fork (.ib .lss .i64 (.app 0 (.at (vt 0) (vt 1))) (.ci 0))
      (.leaf (.ret, (some [])))
      (.fork rRTr_4
       (.leaf (.ret, (some [])))
       (.fork (.ib .lss .i64 (.llen (vt 2)) (.ci 4294967295))
        (.leaf (.normal, (some [(.sI, (vt 1), (.ib .add .i64 (vt 1) (.ci 2))), (.sI, (.llen (vt 2)), (.llen (.lapp (vt 2) (.row (tp [(.wrap .u8 rRTr_5)]))))), (.sL, (vt 2), (.lapp (vt 2) (.row (tp [(.wrap .u8 rRTr_5)]))))])))
        .fail)))
     .fail)
    .fail)
   .fail)
  .fail)
 (.leaf ((.exit 0), none)))
set_option maxRecDepth 100000 in
theorem rRTr_eq : rndC fRT 0 1 TRT FRTr = rRTr := by kernel_rfl
abbrev lCB_0 : Tm := (.and (.ib .leq .i64 (.ci 0) (.ib .shr .u8 (.at (vt 0) (.ci 0)) (.ci 4))) (.ib .lss .i64 (.ib .shr .u8 (.at (vt 0) (.ci 0)) (.ci 4)) (.ci 16)))
abbrev lCB_1 : Tm := (.and (.ib .leq .i64 (.ci 0) (.ib .and .u8 (.at (vt 0) (.ci 0)) (.ci 15))) (.ib .lss .i64 (.ib .and .u8 (.at (vt 0) (.ci 0)) (.ci 15)) (.ci 16)))
abbrev lCB_2 : Tm := (.cs [48, 49, 50, 51, 52, 53, 54, 55, 56, 57, 97, 98, 99, 100, 101, 102])
abbrev lCB_3 : Tm := (.row (tp [(.at lCB_2 (.ib .and .u8 (.at (vt 0) (.ci 0)) (.ci 15)))]))
abbrev lCB_4 : Tm := (.lapp (.row (tp [(.at lCB_2 (.ib .shr .u8 (.at (vt 0) (.ci 0)) (.ci 4)))])) lCB_3)
def lCB : (Tree AV) :=
 (.fork (.ib .lss .i64 (.ci 0) (.len (vt 0)))
 (.fork lCB_0
  (.fork lCB_1
   (.fork (.ib .eql .i64 (.llen (.lapp (.row (tp [(.ci 61)])) lCB_4)) (.ci 3))
    (.leaf (.sstr (.flat (vt 2))))
    .fail)
   .fail)
  .fail)
 (.leaf (.str [61])))
set_option maxRecDepth 100000 in
theorem lCB_eq : lawC fCB (lpC fCB 3 gCB) = lCB := by kernel_rfl
def lRB : (Tree AV) :=
 (.leaf (.sstr (vt 2)))
set_option maxRecDepth 100000 in
theorem lRB_eq : lawC fRB (lpC fRB 3 gRB) = lRB := by kernel_rfl
abbrev lCT_0 : Tm := (.ib .neq .i64 (.ib .rem .i64 (.len (.cut (vt 0) (.ci 1) (.len (vt 0)))) (.ci 2)) (.ci 0))
abbrev lCT_1 : Tm := (.ib .leq .i64 (.ci 0) (.ib .quo .i64 (.len (.cut (vt 0) (.ci 1) (.len (vt 0)))) (.ci 2)))
abbrev lCT_2 : Tm := (.ib .leq .i64 (.ib .quo .i64 (.len (.cut (vt 0) (.ci 1) (.len (vt 0)))) (.ci 2)) (.ci 4294967296))
def lCT : (Tree AV) :=
 (.fork (.ib .geq .i64 (.len (vt 0)) (.ci 1))
 (.fork (.ib .leq .i64 (.ci 1) (.len (vt 0)))
  (.fork (.not (.sb .eql (.cut (vt 0) (.ci 0) (.ci 1)) (.cs [61])))
   (.leaf (.tuple [(.str []), (.bool false)]))
   (.fork lCT_0
    (.leaf (.tuple [(.str []), (.bool false)]))
    (.fork (.and lCT_1 lCT_2)
     (.fork (.ib .eql .i64 (.llen (.lcut (.cb false) (.ci 0) (.ci 0))) (.ci 0))
      (.leaf (.tuple [(.sstr (.flat (vt 2))), (.bool true)]))
      .fail)
     .fail)))
  .fail)
 (.leaf (.tuple [(.str []), (.bool false)])))
set_option maxRecDepth 100000 in
theorem lCT_eq : lawC fCT (lpC fCT 6 gCT) = lCT := by kernel_rfl
abbrev lCTr_0 : Tm := (.ib .neq .i64 (.ib .rem .i64 (.len (.cut (vt 0) (.ci 1) (.len (vt 0)))) (.ci 2)) (.ci 0))
abbrev lCTr_1 : Tm := (.ib .leq .i64 (.ci 0) (.ib .quo .i64 (.len (.cut (vt 0) (.ci 1) (.len (vt 0)))) (.ci 2)))
abbrev lCTr_2 : Tm := (.ib .leq .i64 (.ib .quo .i64 (.len (.cut (vt 0) (.ci 1) (.len (vt 0)))) (.ci 2)) (.ci 4294967296))
def lCTr : (Tree AV) :=
 (.fork (.ib .geq .i64 (.len (vt 0)) (.ci 1))
 (.fork (.ib .leq .i64 (.ci 1) (.len (vt 0)))
  (.fork (.not (.sb .eql (.cut (vt 0) (.ci 0) (.ci 1)) (.cs [61])))
   (.leaf (.tuple [(.str []), (.bool false)]))
   (.fork lCTr_0
    (.leaf (.tuple [(.str []), (.bool false)]))
    (.fork (.and lCTr_1 lCTr_2)
     (.fork (.ib .eql .i64 (.llen (.lcut (.cb false) (.ci 0) (.ci 0))) (.ci 0))
      (.leaf (.tuple [(.str []), (.bool false)]))
      .fail)
     .fail)))
  .fail)
 (.leaf (.tuple [(.str []), (.bool false)])))
set_option maxRecDepth 100000 in
theorem lCTr_eq : lawC fCT (lpC fCT 6 gCTr) = lCTr := by kernel_rfl
def lRT : (Tree AV) :=
 (.fork (.ib .eql .i64 (.ib .rem .i64 (.len (vt 0)) (.ci 2)) (.ci 0))
 (.leaf (.tuple [(.str []), (.bool false)]))
 (.fork (.ib .lss .i64 (.ci 0) (.len (vt 0)))
  (.fork (.ib .neq .u8 (.at (vt 0) (.ci 0)) (.ci 61))
   (.leaf (.tuple [(.str []), (.bool false)]))
   (.fork (.ib .eql .i64 (.llen (.cb false)) (.ci 0))
    (.leaf (.tuple [(.sstr (.flat (vt 2))), (.bool true)]))
    .fail))
  .fail))
set_option maxRecDepth 100000 in
theorem lRT_eq : lawC fRT (lpC fRT 5 gRT) = lRT := by kernel_rfl
def lRTr : (Tree AV) :=
 (.fork (.ib .eql .i64 (.ib .rem .i64 (.len (vt 0)) (.ci 2)) (.ci 0))
 (.leaf (.tuple [(.str []), (.bool false)]))
 (.fork (.ib .lss .i64 (.ci 0) (.len (vt 0)))
  (.fork (.ib .neq .u8 (.at (vt 0) (.ci 0)) (.ci 61))
   (.leaf (.tuple [(.str []), (.bool false)]))
   (.fork (.ib .eql .i64 (.llen (.cb false)) (.ci 0))
    (.leaf (.tuple [(.str []), (.bool false)]))
    .fail))
  .fail))
set_option maxRecDepth 100000 in
theorem lRTr_eq : lawC fRT (lpC fRT 5 gRTr) = lRTr := by kernel_rfl
def lDg : (Tree AV) :=
 (.fork (.ib .geq .u8 (vt 0) (.ci 48))
 (.fork (.ib .leq .u8 (vt 0) (.ci 57))
  (.leaf (.sint .i64 (.ib .sub .i64 (.wrap .i64 (vt 0)) (.ci 48))))
  (.fork (.ib .geq .u8 (vt 0) (.ci 97))
   (.fork (.ib .leq .u8 (vt 0) (.ci 102))
    (.leaf (.sint .i64 (.ib .add .i64 (.ib .sub .i64 (.wrap .i64 (vt 0)) (.ci 97)) (.ci 10))))
    (.leaf (.int .i64 (-1))))
   (.leaf (.int .i64 (-1)))))
 (.fork (.ib .geq .u8 (vt 0) (.ci 97))
  (.fork (.ib .leq .u8 (vt 0) (.ci 102))
   (.leaf (.sint .i64 (.ib .add .i64 (.ib .sub .i64 (.wrap .i64 (vt 0)) (.ci 97)) (.ci 10))))
   (.leaf (.int .i64 (-1))))
  (.leaf (.int .i64 (-1)))))
set_option maxRecDepth 100000 in
theorem lDg_eq : (evFun Tryz.prog none0 1000 fDg [uv 0] heap0 fun v _ => .leaf v) = lDg := by kernel_rfl
end
end Go.Proofs.YtnncgjhgmmdilaaGreatDoor.Ab
