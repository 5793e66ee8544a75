/-
  What the document's side of chapter 15 does, function by function, as trees of answers.
  No condition.
-/
import Derived.Test.YtlbkficdelepeaaSidM
import Derived.Test.YtlbkficdelepeaaVw
namespace Go.Proofs.Ytlbkficdelepeaa.Ab
set_option linter.unusedSimpArgs false
set_option linter.unusedVariables false
open Go
noncomputable section
def tWaitsS : (Tree (Option Eqs)) :=
 (.leaf (some [(.sI, y22, (.ib .sub .i64 y4 y6))]))
set_option maxRecDepth 100000 in
theorem tWaitsS_eq : SWaitsS.tree Try.prog none0 78 = tWaitsS := by kernel_rfl
abbrev qS14 : Tree (Option Eqs) := (.fork (.ib .eql .i64 y21 (.ci 0)) (.leaf (some [(.sI, y23, y2)])) (.fork y22 (.leaf (some [(.sI, y23, y2)])) (.leaf (some [(.sI, y23, y21)]))))
def tCountS : (Tree (Option Eqs)) :=
 (.fork y18 (.leaf (some [(.sI, y23, (.ci 0))])) (.fork (.ib .gtr .i64 y7 y6) qS14 (.fork y17 qS14 (.fork y19 qS14 (.fork y14 (.fork (.app 1281 (tp [y4, y6])) (.fork (.ib .gtr .i64 (.app 1280 (tp [y4, y6])) (.ci 0)) qS14 (.leaf (some [(.sI, y23, (.ci 0))]))) .fail) (.leaf (some [(.sI, y23, (.ci 0))])))))))
set_option maxRecDepth 100000 in
theorem tCountS_eq : SCountS.tree Try.prog envS0 101 = tCountS := by kernel_rfl
abbrev tTakeS_0 : Tm :=
 (.ib .neq .i64 (.wrap .i64 (.ib .rem .u8 y26 (.ci 8))) (.ib .rem .i64 y9 (.ci 8)))
abbrev qS19 : Tm := (.cb true)
abbrev qS15 : Tm := (.cb false)
def tTakeS : (Tree (Option Eqs)) :=
 (.fork tTakeS_0 (.fork (.not y16) (.fork (.not y15) (.leaf (some [(.sS, y33, y29), (.sB, y34, y30), (.sI, y35, y31), (.sB, y36, y32), (.sI, y37, y9), (.sB, y38, qS19), (.sB, y39, qS19), (.sB, y40, qS19)])) (.leaf (some [(.sS, y33, y29), (.sB, y34, y30), (.sI, y35, y31), (.sB, y36, y32), (.sI, y37, y9), (.sB, y38, y10), (.sB, y39, y12), (.sB, y40, y16)]))) (.leaf (some [(.sS, y33, y29), (.sB, y34,
 y30), (.sI, y35, y31), (.sB, y36, y32), (.sI, y37, y9), (.sB, y38, y10), (.sB, y39, y12), (.sB, y40, y16)]))) (.fork y15 (.leaf (some [(.sS, y33, y29), (.sB, y34, y30), (.sI, y35, y31), (.sB, y36, y32), (.sI, y37, y9), (.sB, y38, qS19), (.sB, y39, y12), (.sB, y40, y16)])) (.leaf (some [(.sS, y33, y28), (.sB, y34, qS19), (.sI, y35, y31), (.sB, y36, y32), (.sI, y37, (.ib .add .i64 y9 (.ci 1))), (.sB,
 y38, qS19), (.sB, y39, qS15), (.sB, y40, qS15)]))))
set_option maxRecDepth 100000 in
theorem tTakeS_eq : STakeS.tree Try.prog none0 103 = tTakeS := by kernel_rfl
def tHasS : (Tree (Option Eqs)) :=
 (.fork (.not y18) (.fork y10 (.leaf (some [(.sB, y22, qS19)])) (.fork y13 (.leaf (some [(.sB, y22, qS19)])) (.fork (.not y14) (.fork (.not y17) (.leaf (some [(.sB, y22, (.ib .lss .i64 y7 y4))])) (.leaf (some [(.sB, y22, qS15)]))) (.leaf (some [(.sB, y22, qS15)]))))) (.leaf (some [(.sB, y22, qS15)])))
set_option maxRecDepth 100000 in
theorem tHasS_eq : SHasS.tree Try.prog none0 31 = tHasS := by kernel_rfl
abbrev tPushS_0 : Tm :=
 (tp [y2, (.llen (.lapp (.lcut y5 y3 y4) (.row (tp [y22])))), y6, y7, y14, y17, y18, y19, y21, qS15])
def tPushS : (Tree (Option Eqs)) :=
 (.fork y18 (.leaf (some [(.sI, y23, (.ci 4)), (.sI, y25, y3), (.sI, y26, y4), (.sI, y24, y21), (.sL, y27, y5)])) (.fork (.app 1281 (tp [y4, y6])) (.fork (.ib .geq .i64 (.app 1280 (tp [y4, y6])) y0) (.leaf (some [(.sI, y23, (.ci 3)), (.sI, y25, y3), (.sI, y26, y4), (.sI, y24, y21), (.sL, y27, y5)])) (.fork (.ib .lss .i64 y4 (.ci 4294967295)) (.fork (.app 1345 tPushS_0) (.leaf (some [(.sI, y23, (.ci
 0)), (.sI, y25, (.ci 0)), (.sI, y26, (.llen (.lapp (.lcut y5 y3 y4) (.row (tp [y22]))))), (.sI, y24, (.app 1344 tPushS_0)), (.sL, y27, (.lapp (.lcut y5 y3 y4) (.row (tp [y22]))))])) .fail) .fail)) .fail))
set_option maxRecDepth 100000 in
theorem tPushS_eq : SPushS.tree Try.prog envS1 71 = tPushS := by kernel_rfl
abbrev tNextS_0 : Tm :=
 (tp [y2, y4, y6, y7, y14, y17, y18, y19, y21, qS15])
abbrev qS33 : Tm := (.ib .add .i64 y7 (.ci 1))
abbrev tNextS_1 : Tm :=
 (tp [y2, y4, y6, qS33, y14, y17, y18, y19, y21, qS15])
abbrev tNextS_2 : Tm :=
 (.ite (.ib .gtr .i64 qS33 y8) qS33 y8)
abbrev qS5 : Tree (Option Eqs) := (.leaf (some [(.sI, y22, (.ci 0)), (.sB, y23, (.cb false)), (.sI, y24, (.ci 0)), (.sB, y25, (.cb false)), (.sI, y26, (.ci 0)), (.sI, y27, (.ci 0)), (.sS, y28, (.cs [])), (.sB, y29, (.cb false)), (.sI, y30, y7), (.sI, y31, y8), (.sB, y32, y10), (.sB, y33, y11), (.sB, y34, y12), (.sB, y35, y13), (.sI, y36, y21)]))
abbrev qS21 : Sr × Tm × Tm := (.sB, y23, qS15)
abbrev qS16 : Sr × Tm × Tm := (.sI, y27, (.wrap .u8 (.ib .rem .i64 y9 (.ci 8))))
abbrev qS25 : Sr × Tm × Tm := (.sB, y32, qS15)
abbrev qS27 : Sr × Tm × Tm := (.sI, y36, (.app 1344 tNextS_0))
def tNextS : (Tree (Option Eqs)) :=
 (.fork y18 qS5 (.fork y15 (.fork y10 (.fork (.app 1345 tNextS_0) (.leaf (some [(.sI, y22, (.ci 0)), qS21, (.sI, y24, (.ci 9)), (.sB, y25, y11), (.sI, y26, (.ci 0)), qS16, (.sS, y28, (.cs [])), (.sB, y29, qS19), (.sI, y30, y7), (.sI, y31, y8), qS25, (.sB, y33, qS15), (.sB, y34, qS15), (.sB, y35, y13), qS27])) .fail) (.fork y13 (.fork (.app 1345 tNextS_0) (.leaf (some [(.sI, y22, (.ci 0)), (.sB, y23,
 qS19), (.sI, y24, (.ci 9)), (.sB, y25, qS19), (.sI, y26, (.ci 0)), qS16, (.sS, y28, (.cs [])), (.sB, y29, qS19), (.sI, y30, y7), (.sI, y31, y8), (.sB, y32, y10), (.sB, y33, y11), (.sB, y34, y12), (.sB, y35, qS15), qS27])) .fail) (.fork (.not y14) (.fork (.not y17) (.fork (.ib .lss .i64 y7 y4) (.fork (.and (.ib .leq .i64 (.ci 0) y7) (.ib .lss .i64 y7 y4)) (.fork (.app 1345 tNextS_1) (.leaf (some [(.sI,
 y22, (.ci 0)), (.sB, y23, qS19), (.sI, y24, (.ci 7)), (.sB, y25, qS15), (.sI, y26, (.wrap .u8 (.ib .rem .i64 y7 (.ci 8)))), qS16, (.sS, y28, (.lget y5 (.plus y3 y7) 0)), (.sB, y29, qS19), (.sI, y30, qS33), (.sI, y31, tNextS_2), (.sB, y32, y10), (.sB, y33, y11), (.sB, y34, y12), (.sB, y35, y13), (.sI, y36, (.app 1344 tNextS_1))])) .fail) .fail) qS5) qS5) qS5))) (.fork y10 (.fork y12 (.fork (.app 1345
 tNextS_0) (.leaf (some [(.sI, y22, (.ci 0)), qS21, (.sI, y24, (.ci 10)), (.sB, y25, y11), (.sI, y26, (.ci 0)), qS16, (.sS, y28, (.cs [])), (.sB, y29, qS19), (.sI, y30, y7), (.sI, y31, y8), qS25, (.sB, y33, qS15), (.sB, y34, qS15), (.sB, y35, y13), qS27])) .fail) (.fork (.app 1345 tNextS_0) (.leaf (some [(.sI, y22, (.ci 0)), qS21, (.sI, y24, (.ci 8)), (.sB, y25, y11), (.sI, y26, (.ci 0)), qS16, (.sS,
 y28, (.cs [])), (.sB, y29, qS19), (.sI, y30, y7), (.sI, y31, y8), qS25, (.sB, y33, qS15), (.sB, y34, qS15), (.sB, y35, y13), qS27])) .fail)) (.fork y13 (.fork (.app 1345 tNextS_0) (.leaf (some [(.sI, y22, (.ci 0)), (.sB, y23, qS19), (.sI, y24, (.ci 8)), (.sB, y25, qS19), (.sI, y26, (.ci 0)), qS16, (.sS, y28, (.cs [])), (.sB, y29, qS19), (.sI, y30, y7), (.sI, y31, y8), (.sB, y32, y10), (.sB, y33, y11),
 (.sB, y34, y12), (.sB, y35, qS15), qS27])) .fail) (.fork (.not y14) (.fork (.not y17) (.fork (.ib .lss .i64 y7 y4) (.fork (.and (.ib .leq .i64 (.ci 0) y7) (.ib .lss .i64 y7 y4)) (.fork (.app 1345 tNextS_1) (.leaf (some [(.sI, y22, (.ci 0)), (.sB, y23, qS19), (.sI, y24, (.ci 7)), (.sB, y25, qS15), (.sI, y26, (.wrap .u8 (.ib .rem .i64 y7 (.ci 8)))), qS16, (.sS, y28, (.lget y5 (.plus y3 y7) 0)), (.sB,
 y29, qS19), (.sI, y30, qS33), (.sI, y31, tNextS_2), (.sB, y32, y10), (.sB, y33, y11), (.sB, y34, y12), (.sB, y35, y13), (.sI, y36, (.app 1344 tNextS_1))])) .fail) .fail) qS5) qS5) qS5)))))
set_option maxRecDepth 100000 in
theorem tNextS_eq : SNextS.tree Try.prog envS1 72 = tNextS := by kernel_rfl
abbrev qS6 : Tm := (.app 1600 (tp [y6, y8, y27]))
abbrev tHearS_0 : Tm :=
 (.ib .gtr .i64 (.ib .sub .i64 qS6 y6) (.ci 0))
abbrev qS18 : Tm := (.ib .eql .u8 y24 (.ci 9))
abbrev tHearS_1 : Tm :=
 (tp [y2, y4, qS6, qS6, qS18, qS15, y18, y19, y21, tHearS_0])
abbrev tHearS_2 : Tm :=
 (tp [y2, y4, qS6, qS6, qS18, y17, y18, y19, y21, tHearS_0])
abbrev tHearS_3 : Tm :=
 (.ite (.ib .gtr .i64 qS6 y7) qS6 y7)
abbrev tHearS_4 : Tm :=
 (tp [y2, y4, qS6, tHearS_3, qS18, y17, y18, y19, y21, tHearS_0])
abbrev tHearS_5 : Tm :=
 (tp [y9, y10, y12, y15, y16, y26, y28, (.cs []), qS15, (.ib .sub .i64 qS6 y6), qS15])
abbrev qS32 : Tm := (.app 1666 tHearS_5)
abbrev tHearS_6 : Tm :=
 (tp [y2, y4, qS6, qS6, y14, qS15, y18, y19, y21, (.ib .gtr .i64 qS32 (.ci 0))])
abbrev tHearS_7 : Tm :=
 (tp [y2, y4, qS6, qS6, y14, y17, y18, y19, y21, (.ib .gtr .i64 qS32 (.ci 0))])
abbrev tHearS_8 : Tm :=
 (tp [y2, y4, qS6, tHearS_3, y14, y17, y18, y19, y21, (.ib .gtr .i64 qS32 (.ci 0))])
abbrev qS29 : Sr × Tm × Tm := (.sS, y29, (.cs []))
abbrev qS26 : Sr × Tm × Tm := (.sB, y43, y18)
abbrev qS28 : Tm := (.not (.app 1601 (tp [y6, y8, y27])))
abbrev qS9 : Tree (Option Eqs) := (.leaf (some [(.sS, y29, (.cs [])), (.sB, y30, (.cb false)), (.sI, y31, (.ci 0)), (.sB, y32, (.cb true)), (.sI, y33, y6), (.sI, y34, y7), (.sI, y35, y9), (.sB, y36, y10), (.sB, y37, y11), (.sB, y38, y12), (.sB, y39, y13), (.sB, y40, y14), (.sB, y41, y16), (.sB, y42, y17), (.sB, y43, (.cb true)), (.sI, y44, y20), (.sI, y45, (.ci 0))]))
abbrev qS0 : Tree (Option Eqs) := (.fork y17 (.fork y25 (.fork (.not y23) (.fork (.app 1345 tHearS_1) (.leaf (some [(.sS, y29, (.cs [])), (.sB, y30, (.cb false)), (.sI, y31, (.ib .sub .i64 (.app 1600 (tp [y6, y8, y27])) y6)), (.sB, y32, (.cb false)), (.sI, y33, (.app 1600 (tp [y6, y8, y27]))), (.sI, y34, (.app 1600 (tp [y6, y8, y27]))), (.sI, y35, y9), (.sB, y36, y10), (.sB, y37, y11), (.sB, y38, y12), (.sB, y39, (.cb false)), (.sB, y40, (.ib .eql .u8 y24 (.ci 9))), (.sB, y41, y16), (.sB, y42, (.cb false)), (.sB, y43, y18), (.sI, y44, (.ci 0)), (.sI, y45, (.app 1344 tHearS_1))])) .fail) (.fork (.app 1345 tHearS_2) (.leaf (some [(.sS, y29, (.cs [])), (.sB, y30, (.cb false)), (.sI, y31, (.ib .sub .i64 (.app 1600 (tp [y6, y8, y27])) y6)), (.sB, y32, (.cb false)), (.sI, y33, (.app 1600 (tp [y6, y8, y27]))), (.sI, y34, (.app 1600 (tp [y6, y8, y27]))), (.sI, y35, y9), (.sB, y36, (.cb true)), (.sB, y37, (.cb true)), (.sB, y38, y12), (.sB, y39, y13), (.sB, y40, (.ib .eql .u8 y24 (.ci 9))), (.sB, y41, y16), (.sB, y42, y17), (.sB, y43, y18), (.sI, y44, (.ci 0)), (.sI, y45, (.app 1344 tHearS_2))])) .fail)) (.fork (.app 1345 tHearS_2) (.leaf (some [(.sS, y29, (.cs [])), (.sB, y30, (.cb false)), (.sI, y31, (.ib .sub .i64 (.app 1600 (tp [y6, y8, y27])) y6)), (.sB, y32, (.cb false)), (.sI, y33, (.app 1600 (tp [y6, y8, y27]))), (.sI, y34, (.app 1600 (tp [y6, y8, y27]))), (.sI, y35, y9), (.sB, y36, y10), (.sB, y37, y11), (.sB, y38, y12), (.sB, y39, y13), (.sB, y40, (.ib .eql .u8 y24 (.ci 9))), (.sB, y41, y16), (.sB, y42, y17), (.sB, y43, y18), (.sI, y44, (.ci 0)), (.sI, y45, (.app 1344 tHearS_2))])) .fail)) (.fork y25 (.fork y23 (.fork (.app 1345 tHearS_2) (.leaf (some [(.sS, y29, (.cs [])), (.sB, y30, (.cb false)), (.sI, y31, (.ib .sub .i64 (.app 1600 (tp [y6, y8, y27])) y6)), (.sB, y32, (.cb false)), (.sI, y33, (.app 1600 (tp [y6, y8, y27]))), (.sI, y34, (.app 1600 (tp [y6, y8, y27]))), (.sI, y35, y9), (.sB, y36, (.cb true)), (.sB, y37, (.cb true)), (.sB, y38, y12), (.sB, y39, y13), (.sB, y40, (.ib .eql .u8 y24 (.ci 9))), (.sB, y41, y16), (.sB, y42, y17), (.sB, y43, y18), (.sI, y44, (.ci 0)), (.sI, y45, (.app 1344 tHearS_2))])) .fail) (.fork (.app 1345 tHearS_2) (.leaf (some [(.sS, y29, (.cs [])), (.sB, y30, (.cb false)), (.sI, y31, (.ib .sub .i64 (.app 1600 (tp [y6, y8, y27])) y6)), (.sB, y32, (.cb false)), (.sI, y33, (.app 1600 (tp [y6, y8, y27]))), (.sI, y34, (.app 1600 (tp [y6, y8, y27]))), (.sI, y35, y9), (.sB, y36, y10), (.sB, y37, y11), (.sB, y38, y12), (.sB, y39, y13), (.sB, y40, (.ib .eql .u8 y24 (.ci 9))), (.sB, y41, y16), (.sB, y42, y17), (.sB, y43, y18), (.sI, y44, (.ci 0)), (.sI, y45, (.app 1344 tHearS_2))])) .fail)) (.fork (.app 1345 tHearS_2) (.leaf (some [(.sS, y29, (.cs [])), (.sB, y30, (.cb false)), (.sI, y31, (.ib .sub .i64 (.app 1600 (tp [y6, y8, y27])) y6)), (.sB, y32, (.cb false)), (.sI, y33, (.app 1600 (tp [y6, y8, y27]))), (.sI, y34, (.app 1600 (tp [y6, y8, y27]))), (.sI, y35, y9), (.sB, y36, y10), (.sB, y37, y11), (.sB, y38, y12), (.sB, y39, y13), (.sB, y40, (.ib .eql .u8 y24 (.ci 9))), (.sB, y41, y16), (.sB, y42, y17), (.sB, y43, y18), (.sI, y44, (.ci 0)), (.sI, y45, (.app 1344 tHearS_2))])) .fail)))
abbrev qS1 : Tree (Option Eqs) := (.fork y17 (.fork y25 (.fork (.not y23) (.fork (.app 1345 tHearS_1) (.leaf (some [(.sS, y29, (.cs [])), (.sB, y30, (.cb false)), (.sI, y31, (.ib .sub .i64 (.app 1600 (tp [y6, y8, y27])) y6)), (.sB, y32, (.cb false)), (.sI, y33, (.app 1600 (tp [y6, y8, y27]))), (.sI, y34, (.app 1600 (tp [y6, y8, y27]))), (.sI, y35, y9), (.sB, y36, y10), (.sB, y37, y11), (.sB, y38, y12), (.sB, y39, (.cb false)), (.sB, y40, (.ib .eql .u8 y24 (.ci 9))), (.sB, y41, y16), (.sB, y42, (.cb false)), (.sB, y43, y18), (.sI, y44, (.ci 0)), (.sI, y45, (.app 1344 tHearS_1))])) .fail) (.fork (.app 1345 tHearS_2) (.leaf (some [(.sS, y29, (.cs [])), (.sB, y30, (.cb false)), (.sI, y31, (.ib .sub .i64 (.app 1600 (tp [y6, y8, y27])) y6)), (.sB, y32, (.cb false)), (.sI, y33, (.app 1600 (tp [y6, y8, y27]))), (.sI, y34, (.app 1600 (tp [y6, y8, y27]))), (.sI, y35, y9), (.sB, y36, (.cb true)), (.sB, y37, (.cb true)), (.sB, y38, y12), (.sB, y39, y13), (.sB, y40, (.ib .eql .u8 y24 (.ci 9))), (.sB, y41, y16), (.sB, y42, y17), (.sB, y43, y18), (.sI, y44, y20), (.sI, y45, (.app 1344 tHearS_2))])) .fail)) (.fork (.app 1345 tHearS_2) (.leaf (some [(.sS, y29, (.cs [])), (.sB, y30, (.cb false)), (.sI, y31, (.ib .sub .i64 (.app 1600 (tp [y6, y8, y27])) y6)), (.sB, y32, (.cb false)), (.sI, y33, (.app 1600 (tp [y6, y8, y27]))), (.sI, y34, (.app 1600 (tp [y6, y8, y27]))), (.sI, y35, y9), (.sB, y36, y10), (.sB, y37, y11), (.sB, y38, y12), (.sB, y39, y13), (.sB, y40, (.ib .eql .u8 y24 (.ci 9))), (.sB, y41, y16), (.sB, y42, y17), (.sB, y43, y18), (.sI, y44, y20), (.sI, y45, (.app 1344 tHearS_2))])) .fail)) (.fork y25 (.fork y23 (.fork (.app 1345 tHearS_2) (.leaf (some [(.sS, y29, (.cs [])), (.sB, y30, (.cb false)), (.sI, y31, (.ib .sub .i64 (.app 1600 (tp [y6, y8, y27])) y6)), (.sB, y32, (.cb false)), (.sI, y33, (.app 1600 (tp [y6, y8, y27]))), (.sI, y34, (.app 1600 (tp [y6, y8, y27]))), (.sI, y35, y9), (.sB, y36, (.cb true)), (.sB, y37, (.cb true)), (.sB, y38, y12), (.sB, y39, y13), (.sB, y40, (.ib .eql .u8 y24 (.ci 9))), (.sB, y41, y16), (.sB, y42, y17), (.sB, y43, y18), (.sI, y44, y20), (.sI, y45, (.app 1344 tHearS_2))])) .fail) (.fork (.app 1345 tHearS_2) (.leaf (some [(.sS, y29, (.cs [])), (.sB, y30, (.cb false)), (.sI, y31, (.ib .sub .i64 (.app 1600 (tp [y6, y8, y27])) y6)), (.sB, y32, (.cb false)), (.sI, y33, (.app 1600 (tp [y6, y8, y27]))), (.sI, y34, (.app 1600 (tp [y6, y8, y27]))), (.sI, y35, y9), (.sB, y36, y10), (.sB, y37, y11), (.sB, y38, y12), (.sB, y39, y13), (.sB, y40, (.ib .eql .u8 y24 (.ci 9))), (.sB, y41, y16), (.sB, y42, y17), (.sB, y43, y18), (.sI, y44, y20), (.sI, y45, (.app 1344 tHearS_2))])) .fail)) (.fork (.app 1345 tHearS_2) (.leaf (some [(.sS, y29, (.cs [])), (.sB, y30, (.cb false)), (.sI, y31, (.ib .sub .i64 (.app 1600 (tp [y6, y8, y27])) y6)), (.sB, y32, (.cb false)), (.sI, y33, (.app 1600 (tp [y6, y8, y27]))), (.sI, y34, (.app 1600 (tp [y6, y8, y27]))), (.sI, y35, y9), (.sB, y36, y10), (.sB, y37, y11), (.sB, y38, y12), (.sB, y39, y13), (.sB, y40, (.ib .eql .u8 y24 (.ci 9))), (.sB, y41, y16), (.sB, y42, y17), (.sB, y43, y18), (.sI, y44, y20), (.sI, y45, (.app 1344 tHearS_2))])) .fail)))
abbrev qS20 : Sr × Tm × Tm := (.sI, y31, (.ib .sub .i64 qS6 y6))
abbrev qS30 : Sr × Tm × Tm := (.sI, y34, tHearS_3)
abbrev qS12 : Tree (Option Eqs) := (.fork (.app 1345 tHearS_4) (.leaf (some [(.sS, y29, (.cs [])), (.sB, y30, (.cb false)), (.sI, y31, (.ib .sub .i64 qS6 y6)), (.sB, y32, (.cb false)), (.sI, y33, qS6), (.sI, y34, tHearS_3), (.sI, y35, y9), (.sB, y36, y10), (.sB, y37, y11), (.sB, y38, y12), (.sB, y39, y13), (.sB, y40, (.ib .eql .u8 y24 (.ci 9))), (.sB, y41, y16), (.sB, y42, y17), (.sB, y43, y18), (.sI, y44, (.ci 0)), (.sI, y45, (.app 1344 tHearS_4))])) .fail)
abbrev qS13 : Tree (Option Eqs) := (.fork (.app 1345 tHearS_4) (.leaf (some [(.sS, y29, (.cs [])), (.sB, y30, (.cb false)), (.sI, y31, (.ib .sub .i64 qS6 y6)), (.sB, y32, (.cb false)), (.sI, y33, qS6), (.sI, y34, tHearS_3), (.sI, y35, y9), (.sB, y36, y10), (.sB, y37, y11), (.sB, y38, y12), (.sB, y39, y13), (.sB, y40, (.ib .eql .u8 y24 (.ci 9))), (.sB, y41, y16), (.sB, y42, y17), (.sB, y43, y18), (.sI, y44, y20), (.sI, y45, (.app 1344 tHearS_4))])) .fail)
abbrev qS2 : Tree (Option Eqs) := (.fork (.app 1672 tHearS_5) (.fork (.app 1345 tHearS_6) (.leaf (some [(.sS, y29, (.app 1664 tHearS_5)), (.sB, y30, (.app 1665 tHearS_5)), (.sI, y31, (.app 1666 tHearS_5)), (.sB, y32, (.app 1667 tHearS_5)), (.sI, y33, (.app 1600 (tp [y6, y8, y27]))), (.sI, y34, (.app 1600 (tp [y6, y8, y27]))), (.sI, y35, (.app 1668 tHearS_5)), (.sB, y36, (.app 1669 tHearS_5)), (.sB, y37, y11), (.sB, y38, (.app 1670 tHearS_5)), (.sB, y39, (.cb false)), (.sB, y40, y14), (.sB, y41, (.app 1671 tHearS_5)), (.sB, y42, (.cb false)), (.sB, y43, y18), (.sI, y44, (.ci 0)), (.sI, y45, (.app 1344 tHearS_6))])) .fail) .fail)
abbrev qS17 : Tm := (.app 1672 tHearS_5)
abbrev qS7 : Tree (Option Eqs) := (.fork (.app 1345 tHearS_7) (.leaf (some [(.sS, y29, (.app 1664 tHearS_5)), (.sB, y30, (.app 1665 tHearS_5)), (.sI, y31, (.app 1666 tHearS_5)), (.sB, y32, (.app 1667 tHearS_5)), (.sI, y33, qS6), (.sI, y34, qS6), (.sI, y35, (.app 1668 tHearS_5)), (.sB, y36, (.cb true)), (.sB, y37, (.cb true)), (.sB, y38, (.app 1670 tHearS_5)), (.sB, y39, y13), (.sB, y40, y14), (.sB, y41, (.app 1671 tHearS_5)), (.sB, y42, y17), (.sB, y43, y18), (.sI, y44, (.ci 0)), (.sI, y45, (.app 1344 tHearS_7))])) .fail)
abbrev qS3 : Tree (Option Eqs) := (.fork (.app 1345 tHearS_7) (.leaf (some [(.sS, y29, (.app 1664 tHearS_5)), (.sB, y30, (.app 1665 tHearS_5)), (.sI, y31, (.app 1666 tHearS_5)), (.sB, y32, (.app 1667 tHearS_5)), (.sI, y33, (.app 1600 (tp [y6, y8, y27]))), (.sI, y34, (.app 1600 (tp [y6, y8, y27]))), (.sI, y35, (.app 1668 tHearS_5)), (.sB, y36, (.app 1669 tHearS_5)), (.sB, y37, y11), (.sB, y38, (.app 1670 tHearS_5)), (.sB, y39, y13), (.sB, y40, y14), (.sB, y41, (.app 1671 tHearS_5)), (.sB, y42, y17), (.sB, y43, y18), (.sI, y44, (.ci 0)), (.sI, y45, (.app 1344 tHearS_7))])) .fail)
abbrev qS10 : Tree (Option Eqs) := (.fork (.app 1345 tHearS_8) (.leaf (some [(.sS, y29, (.app 1664 tHearS_5)), (.sB, y30, (.app 1665 tHearS_5)), (.sI, y31, (.app 1666 tHearS_5)), (.sB, y32, (.app 1667 tHearS_5)), (.sI, y33, qS6), (.sI, y34, tHearS_3), (.sI, y35, (.app 1668 tHearS_5)), (.sB, y36, (.app 1669 tHearS_5)), (.sB, y37, y11), (.sB, y38, (.app 1670 tHearS_5)), (.sB, y39, y13), (.sB, y40, y14), (.sB, y41, (.app 1671 tHearS_5)), (.sB, y42, y17), (.sB, y43, y18), (.sI, y44, (.ci 0)), (.sI, y45, (.app 1344 tHearS_8))])) .fail)
abbrev qS8 : Tree (Option Eqs) := (.fork (.app 1345 tHearS_7) (.leaf (some [(.sS, y29, (.app 1664 tHearS_5)), (.sB, y30, (.app 1665 tHearS_5)), (.sI, y31, (.app 1666 tHearS_5)), (.sB, y32, (.app 1667 tHearS_5)), (.sI, y33, qS6), (.sI, y34, qS6), (.sI, y35, (.app 1668 tHearS_5)), (.sB, y36, (.cb true)), (.sB, y37, (.cb true)), (.sB, y38, (.app 1670 tHearS_5)), (.sB, y39, y13), (.sB, y40, y14), (.sB, y41, (.app 1671 tHearS_5)), (.sB, y42, y17), (.sB, y43, y18), (.sI, y44, y20), (.sI, y45, (.app 1344 tHearS_7))])) .fail)
abbrev qS4 : Tree (Option Eqs) := (.fork (.app 1345 tHearS_7) (.leaf (some [(.sS, y29, (.app 1664 tHearS_5)), (.sB, y30, (.app 1665 tHearS_5)), (.sI, y31, (.app 1666 tHearS_5)), (.sB, y32, (.app 1667 tHearS_5)), (.sI, y33, (.app 1600 (tp [y6, y8, y27]))), (.sI, y34, (.app 1600 (tp [y6, y8, y27]))), (.sI, y35, (.app 1668 tHearS_5)), (.sB, y36, (.app 1669 tHearS_5)), (.sB, y37, y11), (.sB, y38, (.app 1670 tHearS_5)), (.sB, y39, y13), (.sB, y40, y14), (.sB, y41, (.app 1671 tHearS_5)), (.sB, y42, y17), (.sB, y43, y18), (.sI, y44, y20), (.sI, y45, (.app 1344 tHearS_7))])) .fail)
abbrev qS11 : Tree (Option Eqs) := (.fork (.app 1345 tHearS_8) (.leaf (some [(.sS, y29, (.app 1664 tHearS_5)), (.sB, y30, (.app 1665 tHearS_5)), (.sI, y31, (.app 1666 tHearS_5)), (.sB, y32, (.app 1667 tHearS_5)), (.sI, y33, qS6), (.sI, y34, tHearS_3), (.sI, y35, (.app 1668 tHearS_5)), (.sB, y36, (.app 1669 tHearS_5)), (.sB, y37, y11), (.sB, y38, (.app 1670 tHearS_5)), (.sB, y39, y13), (.sB, y40, y14), (.sB, y41, (.app 1671 tHearS_5)), (.sB, y42, y17), (.sB, y43, y18), (.sI, y44, y20), (.sI, y45, (.app 1344 tHearS_8))])) .fail)
def tHearS : (Tree (Option Eqs)) :=
 (.fork y18 (.leaf (some [qS29, (.sB, y30, qS15), (.sI, y31, (.ci 0)), qS25, (.sI, y33, y6), (.sI, y34, y7), (.sI, y35, y9), (.sB, y36, y10), (.sB, y37, y11), (.sB, y38, y12), (.sB, y39, y13), (.sB, y40, y14), (.sB, y41, y16), (.sB, y42, y17), qS26, (.sI, y44, y20), (.sI, y45, y21)])) (.fork (.ib .neq .u8 y24 (.ci 7)) (.fork (.ib .neq .u8 y24 (.ci 8)) (.fork (.ib .neq .u8 y24 (.ci 9)) (.fork (.ib .neq
 .u8 y24 (.ci 10)) (.leaf (some [qS29, (.sB, y30, qS15), (.sI, y31, (.ci 0)), qS25, (.sI, y33, y6), (.sI, y34, y7), (.sI, y35, y9), (.sB, y36, y10), (.sB, y37, y11), (.sB, y38, y12), (.sB, y39, y13), (.sB, y40, y14), (.sB, y41, y16), (.sB, y42, y17), qS26, (.sI, y44, y20), (.sI, y45, y21)])) (.fork (.app 1602 (tp [y6, y8, y27])) (.fork qS28 qS9 (.fork tHearS_0 qS0 qS1)) .fail)) (.fork (.app 1602 (tp
 [y6, y8, y27])) (.fork qS28 qS9 (.fork tHearS_0 qS0 qS1)) .fail)) (.fork (.app 1602 (tp [y6, y8, y27])) (.fork qS28 qS9 (.fork tHearS_0 (.fork qS18 qS0 (.fork (.ib .eql .u8 y24 (.ci 10)) qS0 (.fork y17 (.fork y25 (.fork (.not y23) (.fork (.app 1345 tHearS_1) (.leaf (some [qS29, (.sB, y30, qS15), qS20, qS25, (.sI, y33, qS6), (.sI, y34, qS6), (.sI, y35, y9), (.sB, y36, y10), (.sB, y37, y11), (.sB, y38,
 y12), (.sB, y39, qS15), (.sB, y40, qS18), (.sB, y41, y16), (.sB, y42, qS15), qS26, (.sI, y44, (.ci 0)), (.sI, y45, (.app 1344 tHearS_1))])) .fail) (.fork (.app 1345 tHearS_4) (.leaf (some [qS29, (.sB, y30, qS15), qS20, qS25, (.sI, y33, qS6), qS30, (.sI, y35, y9), (.sB, y36, qS19), (.sB, y37, qS19), (.sB, y38, y12), (.sB, y39, y13), (.sB, y40, qS18), (.sB, y41, y16), (.sB, y42, y17), qS26, (.sI, y44,
 (.ci 0)), (.sI, y45, (.app 1344 tHearS_4))])) .fail)) qS12) (.fork y25 (.fork y23 (.fork (.app 1345 tHearS_4) (.leaf (some [qS29, (.sB, y30, qS15), qS20, qS25, (.sI, y33, qS6), qS30, (.sI, y35, y9), (.sB, y36, qS19), (.sB, y37, qS19), (.sB, y38, y12), (.sB, y39, y13), (.sB, y40, qS18), (.sB, y41, y16), (.sB, y42, y17), qS26, (.sI, y44, (.ci 0)), (.sI, y45, (.app 1344 tHearS_4))])) .fail) qS12) qS12))))
 (.fork qS18 qS1 (.fork (.ib .eql .u8 y24 (.ci 10)) qS1 (.fork y17 (.fork y25 (.fork (.not y23) (.fork (.app 1345 tHearS_1) (.leaf (some [qS29, (.sB, y30, qS15), qS20, qS25, (.sI, y33, qS6), (.sI, y34, qS6), (.sI, y35, y9), (.sB, y36, y10), (.sB, y37, y11), (.sB, y38, y12), (.sB, y39, qS15), (.sB, y40, qS18), (.sB, y41, y16), (.sB, y42, qS15), qS26, (.sI, y44, (.ci 0)), (.sI, y45, (.app 1344 tHearS_1))]))
 .fail) (.fork (.app 1345 tHearS_4) (.leaf (some [qS29, (.sB, y30, qS15), qS20, qS25, (.sI, y33, qS6), qS30, (.sI, y35, y9), (.sB, y36, qS19), (.sB, y37, qS19), (.sB, y38, y12), (.sB, y39, y13), (.sB, y40, qS18), (.sB, y41, y16), (.sB, y42, y17), qS26, (.sI, y44, y20), (.sI, y45, (.app 1344 tHearS_4))])) .fail)) qS13) (.fork y25 (.fork y23 (.fork (.app 1345 tHearS_4) (.leaf (some [qS29, (.sB, y30, qS15),
 qS20, qS25, (.sI, y33, qS6), qS30, (.sI, y35, y9), (.sB, y36, qS19), (.sB, y37, qS19), (.sB, y38, y12), (.sB, y39, y13), (.sB, y40, qS18), (.sB, y41, y16), (.sB, y42, y17), qS26, (.sI, y44, y20), (.sI, y45, (.app 1344 tHearS_4))])) .fail) qS13) qS13)))))) .fail)) (.fork (.app 1602 (tp [y6, y8, y27])) (.fork qS28 qS9 (.fork tHearS_0 (.fork qS18 (.fork y17 (.fork y25 (.fork (.not y23) qS2 (.fork qS17
 qS7 .fail)) (.fork qS17 qS3 .fail)) (.fork qS17 (.fork y25 (.fork y23 qS7 qS3) qS3) .fail)) (.fork (.ib .eql .u8 y24 (.ci 10)) (.fork y17 (.fork y25 (.fork (.not y23) qS2 (.fork qS17 qS7 .fail)) (.fork qS17 qS3 .fail)) (.fork qS17 (.fork y25 (.fork y23 qS7 qS3) qS3) .fail)) (.fork y17 (.fork y25 (.fork (.not y23) qS2 (.fork qS17 (.fork (.app 1345 tHearS_8) (.leaf (some [(.sS, y29, (.app 1664 tHearS_5)),
 (.sB, y30, (.app 1665 tHearS_5)), (.sI, y31, qS32), (.sB, y32, (.app 1667 tHearS_5)), (.sI, y33, qS6), qS30, (.sI, y35, (.app 1668 tHearS_5)), (.sB, y36, qS19), (.sB, y37, qS19), (.sB, y38, (.app 1670 tHearS_5)), (.sB, y39, y13), (.sB, y40, y14), (.sB, y41, (.app 1671 tHearS_5)), (.sB, y42, y17), qS26, (.sI, y44, (.ci 0)), (.sI, y45, (.app 1344 tHearS_8))])) .fail) .fail)) (.fork qS17 qS10 .fail))
 (.fork qS17 (.fork y25 (.fork y23 (.fork (.app 1345 tHearS_8) (.leaf (some [(.sS, y29, (.app 1664 tHearS_5)), (.sB, y30, (.app 1665 tHearS_5)), (.sI, y31, qS32), (.sB, y32, (.app 1667 tHearS_5)), (.sI, y33, qS6), qS30, (.sI, y35, (.app 1668 tHearS_5)), (.sB, y36, qS19), (.sB, y37, qS19), (.sB, y38, (.app 1670 tHearS_5)), (.sB, y39, y13), (.sB, y40, y14), (.sB, y41, (.app 1671 tHearS_5)), (.sB, y42,
 y17), qS26, (.sI, y44, (.ci 0)), (.sI, y45, (.app 1344 tHearS_8))])) .fail) qS10) qS10) .fail)))) (.fork qS18 (.fork y17 (.fork y25 (.fork (.not y23) qS2 (.fork qS17 qS8 .fail)) (.fork qS17 qS4 .fail)) (.fork qS17 (.fork y25 (.fork y23 qS8 qS4) qS4) .fail)) (.fork (.ib .eql .u8 y24 (.ci 10)) (.fork y17 (.fork y25 (.fork (.not y23) qS2 (.fork qS17 qS8 .fail)) (.fork qS17 qS4 .fail)) (.fork qS17 (.fork
 y25 (.fork y23 qS8 qS4) qS4) .fail)) (.fork y17 (.fork y25 (.fork (.not y23) qS2 (.fork qS17 (.fork (.app 1345 tHearS_8) (.leaf (some [(.sS, y29, (.app 1664 tHearS_5)), (.sB, y30, (.app 1665 tHearS_5)), (.sI, y31, qS32), (.sB, y32, (.app 1667 tHearS_5)), (.sI, y33, qS6), qS30, (.sI, y35, (.app 1668 tHearS_5)), (.sB, y36, qS19), (.sB, y37, qS19), (.sB, y38, (.app 1670 tHearS_5)), (.sB, y39, y13), (.sB,
 y40, y14), (.sB, y41, (.app 1671 tHearS_5)), (.sB, y42, y17), qS26, (.sI, y44, y20), (.sI, y45, (.app 1344 tHearS_8))])) .fail) .fail)) (.fork qS17 qS11 .fail)) (.fork qS17 (.fork y25 (.fork y23 (.fork (.app 1345 tHearS_8) (.leaf (some [(.sS, y29, (.app 1664 tHearS_5)), (.sB, y30, (.app 1665 tHearS_5)), (.sI, y31, qS32), (.sB, y32, (.app 1667 tHearS_5)), (.sI, y33, qS6), qS30, (.sI, y35, (.app 1668
 tHearS_5)), (.sB, y36, qS19), (.sB, y37, qS19), (.sB, y38, (.app 1670 tHearS_5)), (.sB, y39, y13), (.sB, y40, y14), (.sB, y41, (.app 1671 tHearS_5)), (.sB, y42, y17), qS26, (.sI, y44, y20), (.sI, y45, (.app 1344 tHearS_8))])) .fail) qS11) qS11) .fail)))))) .fail)))
set_option maxRecDepth 100000 in
theorem tHearS_eq : SHearS.tree Try.prog envS1 74 = tHearS := by kernel_rfl
abbrev tBusyS_0 : Tm :=
 (tp [y2, y4, y6, y7, y14, y17, y18, y19, y21, qS15])
def tBusyS : (Tree (Option Eqs)) :=
 (.fork y18 (.leaf (some [(.sB, y23, y10), (.sB, y24, y15), (.sI, y25, y21)])) (.fork (.beq y22 y15) (.leaf (some [(.sB, y23, y10), (.sB, y24, y15), (.sI, y25, y21)])) (.fork (.app 1345 tBusyS_0) (.leaf (some [(.sB, y23, qS19), (.sB, y24, y22), (.sI, y25, (.app 1344 tBusyS_0))])) .fail)))
set_option maxRecDepth 100000 in
theorem tBusyS_eq : SBusyS.tree Try.prog envS1 77 = tBusyS := by kernel_rfl
abbrev tWantS_0 : Tm :=
 (tp [y2, y4, y6, y7, y14, y17, y18, y22, y21, qS15])
def tWantS : (Tree (Option Eqs)) :=
 (.fork (.not y18) (.fork (.app 1345 tWantS_0) (.leaf (some [(.sB, y23, y22), (.sI, y24, (.app 1344 tWantS_0))])) .fail) (.leaf (some [(.sB, y23, y19), (.sI, y24, y21)])))
set_option maxRecDepth 100000 in
theorem tWantS_eq : SWantS.tree Try.prog envS1 76 = tWantS := by kernel_rfl
abbrev qS22 : Sr × Tm × Tm := (.sS, y22, (.cs []))
abbrev qS24 : Sr × Tm × Tm := (.sI, y24, (.ci 0))
abbrev qS31 : Sr × Tm × Tm := (.sI, y30, (.ib .sub .i64 y21 (.ci 1)))
abbrev qS23 : Tm := (.ib .add .i64 y20 (.ci 1))
def tTickS : (Tree (Option Eqs)) :=
 (.fork y18 (.leaf (some [qS22, qS21, qS24, (.sB, y25, qS15), (.sB, y26, y13), (.sB, y27, y17), (.sB, y28, y18), (.sI, y29, y20), (.sI, y30, y21)])) (.fork (.ib .eql .i64 y21 (.ci 0)) (.leaf (some [qS22, qS21, qS24, (.sB, y25, qS15), (.sB, y26, y13), (.sB, y27, y17), (.sB, y28, y18), (.sI, y29, y20), (.sI, y30, y21)])) (.fork (.ib .gtr .i64 (.ib .sub .i64 y21 (.ci 1)) (.ci 0)) (.leaf (some [qS22, qS21,
 qS24, (.sB, y25, qS15), (.sB, y26, y13), (.sB, y27, y17), (.sB, y28, y18), (.sI, y29, y20), qS31])) (.fork (.ib .gtr .i64 y7 y6) (.fork (.ib .gtr .i64 qS23 y1) (.leaf (some [qS22, qS21, qS24, (.sB, y25, qS19), (.sB, y26, y13), (.sB, y27, y17), (.sB, y28, qS19), (.sI, y29, qS23), qS31])) (.leaf (some [qS22, qS21, qS24, (.sB, y25, qS15), (.sB, y26, qS19), (.sB, y27, qS19), (.sB, y28, y18), (.sI, y29,
 qS23), (.sI, y30, y2)]))) (.fork y17 (.fork (.ib .gtr .i64 qS23 y1) (.leaf (some [qS22, qS21, qS24, (.sB, y25, qS19), (.sB, y26, y13), (.sB, y27, y17), (.sB, y28, qS19), (.sI, y29, qS23), qS31])) (.leaf (some [qS22, qS21, qS24, (.sB, y25, qS15), (.sB, y26, qS19), (.sB, y27, qS19), (.sB, y28, y18), (.sI, y29, qS23), (.sI, y30, y2)]))) (.fork (.ib .gtr .i64 y20 y1) (.leaf (some [qS22, qS21, qS24, (.sB,
 y25, qS19), (.sB, y26, y13), (.sB, y27, y17), (.sB, y28, qS19), (.sI, y29, y20), qS31])) (.leaf (some [qS22, qS21, qS24, (.sB, y25, qS15), (.sB, y26, qS19), (.sB, y27, qS19), (.sB, y28, y18), (.sI, y29, y20), (.sI, y30, y2)]))))))))
set_option maxRecDepth 100000 in
theorem tTickS_eq : STickS.tree Try.prog envS1 75 = tTickS := by kernel_rfl
end
end Go.Proofs.Ytlbkficdelepeaa.Ab
