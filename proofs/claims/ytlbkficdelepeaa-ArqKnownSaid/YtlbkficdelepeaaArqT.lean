/-
  What the program's side of chapter 15 does, function by function, as trees of answers.
  No condition.
-/
import Derived.Test.YtlbkficdelepeaaArqM
import Derived.Test.YtlbkficdelepeaaVw
namespace Go.Proofs.Ytlbkficdelepeaa.Ab
set_option linter.unusedSimpArgs false
set_option linter.unusedVariables false
open Go
noncomputable section
abbrev tAdd_0 : Tm :=
 (.ib .add .i64 (.wrap .i64 (.wrap .u8 (.ib .and .i64 (.wrap .i64 y0) (.ci 7)))) (.ib .and .i64 y1 (.ci 7)))
def tAdd : (Tree (Option Eqs)) :=
 (.leaf (some [(.sI, y2, (.wrap .u8 (.ib .and .i64 tAdd_0 (.ci 7))))]))
set_option maxRecDepth 100000 in
theorem tAdd_eq : SAdd.tree Try.prog none0 69 = tAdd := by kernel_rfl
abbrev tWay_0 : Tm :=
 (.ib .sub .i64 (.wrap .i64 (.wrap .u8 (.ib .and .i64 (.wrap .i64 y1) (.ci 7)))) (.wrap .i64 (.wrap .u8 (.ib .and .i64 (.wrap .i64 y0) (.ci 7)))))
def tWay : (Tree (Option Eqs)) :=
 (.leaf (some [(.sI, y2, (.wrap .i64 (.wrap .u8 (.ib .and .i64 tWay_0 (.ci 7)))))]))
set_option maxRecDepth 100000 in
theorem tWay_eq : SWay.tree Try.prog none0 104 = tWay := by kernel_rfl
abbrev tAcks_0 : Tm :=
 (.ib .gtr .i64 (.app 192 (tp [y0, y2])) (.app 192 (tp [y0, y1])))
abbrev qA21 : Tm := (.ci 0)
abbrev qA10 : Tm := (.cb false)
abbrev qA17 : Tm := (.cb true)
def tAcks : (Tree (Option Eqs)) :=
 (.fork (.app 193 (tp [y0, y2])) (.fork (.app 193 (tp [y0, y1])) (.fork tAcks_0 (.leaf (some [(.sI, y3, qA21), (.sB, y4, qA10)])) (.leaf (some [(.sI, y3, (.app 192 (tp [y0, y2]))), (.sB, y4, qA17)]))) .fail) .fail)
set_option maxRecDepth 100000 in
theorem tAcks_eq : SAcks.tree Try.prog env0 83 = tAcks := by kernel_rfl
abbrev qA11 : Tree (Option Eqs) := (.fork (.ib .eql .i64 y6 (.ci 0)) (.leaf (some [(.sI, y25, y15)])) (.fork y24 (.leaf (some [(.sI, y25, y15)])) (.leaf (some [(.sI, y25, y6)]))))
def tCount : (Tree (Option Eqs)) :=
 (.fork y12 (.leaf (some [(.sI, y25, y6)])) (.fork (.ib .eql .i64 y4 qA21) (.fork (.not y10) (.fork (.not y11) (.fork y7 (.fork (.ib .leq .i64 y17 qA21) (.leaf (some [(.sI, y25, qA21)])) qA11) (.leaf (some [(.sI, y25, qA21)]))) qA11) qA11) qA11))
set_option maxRecDepth 100000 in
theorem tCount_eq : SCount.tree Try.prog none0 82 = tCount := by kernel_rfl
abbrev tAcked_0 : Tm :=
 (.and (.ib .leq .i64 qA21 y24) (.ib .leq .i64 y24 y17))
abbrev tAcked_1 : Tm :=
 (.ite (.ib .gtr .i64 (.ib .sub .i64 y4 y24) qA21) (.ib .sub .i64 y4 y24) qA21)
def tAcked : (Tree (Option Eqs)) :=
 (.fork tAcked_0 (.fork (.app 129 (tp [y0, y24])) (.fork (.ib .gtr .i64 y24 qA21) (.leaf (some [(.sI, y25, (.app 128 (tp [y0, y24]))), (.sI, y26, tAcked_1), (.sI, y27, qA21), (.sI, y28, (.plus y16 y24)), (.sI, y29, (.minus y17 y24)), (.sI, y30, (.ib .sub .i64 y19 y24))])) (.leaf (some [(.sI, y25, (.app 128 (tp [y0, y24]))), (.sI, y26, tAcked_1), (.sI, y27, y5), (.sI, y28, (.plus y16 y24)), (.sI, y29, (.minus y17 y24)), (.sI, y30, (.ib .sub .i64 y19 y24))]))) .fail) .fail)
set_option maxRecDepth 100000 in
theorem tAcked_eq : SAcked.tree Try.prog env0 85 = tAcked := by kernel_rfl
abbrev qA24 : Sr × Tm × Tm := (.sB, y34, qA10)
abbrev qA19 : Sr × Tm × Tm := (.sS, y31, (.cs []))
abbrev qA25 : Sr × Tm × Tm := (.sB, y32, qA10)
def tTake : (Tree (Option Eqs)) :=
 (.fork (.app 193 (tp [y2, y28])) (.fork (.ib .eql .i64 (.app 192 (tp [y2, y28])) qA21) (.fork (.not y8) (.fork (.app 129 (tp [y2, (.ci 1)])) (.leaf (some [(.sS, y31, y30), (.sB, y32, qA17), (.sI, y33, qA21), qA24, (.sI, y35, (.app 128 (tp [y2, (.ci 1)]))), (.sB, y36, qA10), (.sB, y38, qA17), (.sB, y37, qA10)])) .fail) (.leaf (some [qA19, qA25, (.sI, y33, qA21), qA24, (.sI, y35, y2), (.sB, y36, y9),
 (.sB, y38, qA17), (.sB, y37, y22)]))) (.fork (.not y9) (.fork (.not y8) (.leaf (some [qA19, qA25, (.sI, y33, qA21), qA24, (.sI, y35, y2), (.sB, y36, qA17), (.sB, y38, qA17), (.sB, y37, qA17)])) (.leaf (some [qA19, qA25, (.sI, y33, qA21), qA24, (.sI, y35, y2), (.sB, y36, y9), (.sB, y38, y20), (.sB, y37, y22)]))) (.leaf (some [qA19, qA25, (.sI, y33, qA21), qA24, (.sI, y35, y2), (.sB, y36, y9), (.sB,
 y38, y20), (.sB, y37, y22)])))) .fail)
set_option maxRecDepth 100000 in
theorem tTake_eq : STake.tree Try.prog env0 86 = tTake := by kernel_rfl
def tHas : (Tree (Option Eqs)) :=
 (.fork (.not y12) (.fork y20 (.leaf (some [(.sB, y24, qA17)])) (.fork y23 (.leaf (some [(.sB, y24, qA17)])) (.fork (.not y7) (.fork (.not y10) (.leaf (some [(.sB, y24, (.ib .lss .i64 y4 y17))])) (.leaf (some [(.sB, y24, qA10)]))) (.leaf (some [(.sB, y24, qA10)]))))) (.leaf (some [(.sB, y24, qA10)])))
set_option maxRecDepth 100000 in
theorem tHas_eq : SHas.tree Try.prog none0 30 = tHas := by kernel_rfl
abbrev tPush_0 : Tm :=
 (tp [y4, y6, y7, y10, y11, y12, y15, (.llen (.lapp (.lcut y18 y16 y17) (.row (tp [y24])))), qA10])
def tPush : (Tree (Option Eqs)) :=
 (.fork y12 (.leaf (some [(.sI, y25, (.ci 4)), (.sI, y26, y6), (.sI, y27, y16), (.sI, y28, y17), (.sL, y29, y18)])) (.fork (.ib .geq .i64 y17 y13) (.leaf (some [(.sI, y25, (.ci 3)), (.sI, y26, y6), (.sI, y27, y16), (.sI, y28, y17), (.sL, y29, y18)])) (.fork (.ib .lss .i64 y17 (.ci 4294967295)) (.fork (.app 321 tPush_0) (.leaf (some [(.sI, y25, qA21), (.sI, y26, (.app 320 tPush_0)), (.sI, y27, qA21), (.sI, y28, (.llen (.lapp (.lcut y18 y16 y17) (.row (tp [y24]))))), (.sL, y29, (.lapp (.lcut y18 y16 y17) (.row (tp [y24]))))])) .fail) .fail)))
set_option maxRecDepth 100000 in
theorem tPush_eq : SPush.tree Try.prog env1 36 = tPush := by kernel_rfl
abbrev tNext_0 : Tm :=
 (.app 513 (tp [y4, y7, y10, y12, y17, y20, y23]))
abbrev tNext_1 : Tm :=
 (.app 512 (tp [y4, y7, y10, y12, y17, y20, y23]))
abbrev tNext_2 : Tm :=
 (tp [y4, y6, y7, y10, y11, y12, y15, y17, qA10])
abbrev qA39 : Tm := (.ib .add .i64 y4 (.ci 1))
abbrev tNext_3 : Tm :=
 (tp [qA39, y6, y7, y10, y11, y12, y15, y17, qA10])
abbrev tNext_4 : Tm :=
 (.ite (.ib .gtr .i64 qA39 y19) qA39 y19)
abbrev qA23 : Sr × Tm × Tm := (.sB, y25, qA10)
abbrev qA33 : Sr × Tm × Tm := (.sI, y26, qA21)
abbrev qA31 : Sr × Tm × Tm := (.sB, y31, qA17)
abbrev qA26 : Sr × Tm × Tm := (.sI, y33, (.app 320 tNext_2))
def tNext : (Tree (Option Eqs)) :=
 (.fork tNext_0 (.fork (.not tNext_1) (.leaf (some [(.sI, y24, qA21), qA23, qA33, (.sB, y27, qA10), (.sI, y28, qA21), (.sI, y29, qA21), (.sS, y30, (.cs [])), (.sB, y31, qA10), (.sI, y32, y4), (.sI, y33, y6), (.sI, y34, y19), (.sB, y35, y20), (.sB, y36, y21), (.sB, y37, y22), (.sB, y38, y23)])) (.fork y8 (.fork y20 (.fork y22 (.fork (.app 321 tNext_2) (.leaf (some [(.sI, y24, qA21), qA23, (.sI, y26,
 (.ci 9)), (.sB, y27, y21), (.sI, y28, qA21), (.sI, y29, y2), (.sS, y30, (.cs [])), qA31, (.sI, y32, y4), qA26, (.sI, y34, y19), (.sB, y35, qA10), (.sB, y36, qA10), (.sB, y37, qA10), (.sB, y38, y23)])) .fail) (.fork (.app 321 tNext_2) (.leaf (some [(.sI, y24, qA21), qA23, (.sI, y26, (.ci 9)), (.sB, y27, y21), (.sI, y28, qA21), (.sI, y29, y2), (.sS, y30, (.cs [])), qA31, (.sI, y32, y4), qA26, (.sI, y34,
 y19), (.sB, y35, qA10), (.sB, y36, qA10), (.sB, y37, qA10), (.sB, y38, y23)])) .fail)) (.fork y23 (.fork (.app 321 tNext_2) (.leaf (some [(.sI, y24, qA21), (.sB, y25, qA17), (.sI, y26, (.ci 9)), (.sB, y27, qA17), (.sI, y28, qA21), (.sI, y29, y2), (.sS, y30, (.cs [])), qA31, (.sI, y32, y4), qA26, (.sI, y34, y19), (.sB, y35, y20), (.sB, y36, y21), (.sB, y37, y22), (.sB, y38, qA10)])) .fail) (.fork (.app
 129 (tp [y0, y4])) (.fork (.and (.ib .leq .i64 qA21 y4) (.ib .lss .i64 y4 y17)) (.fork (.app 321 tNext_3) (.leaf (some [(.sI, y24, qA21), (.sB, y25, qA17), (.sI, y26, (.ci 7)), (.sB, y27, qA10), (.sI, y28, (.app 128 (tp [y0, y4]))), (.sI, y29, y2), (.sS, y30, (.lget y18 (.plus y16 y4) 0)), qA31, (.sI, y32, qA39), (.sI, y33, (.app 320 tNext_3)), (.sI, y34, tNext_4), (.sB, y35, y20), (.sB, y36, y21),
 (.sB, y37, y22), (.sB, y38, y23)])) .fail) .fail) .fail))) (.fork y20 (.fork y22 (.fork (.app 321 tNext_2) (.leaf (some [(.sI, y24, qA21), qA23, (.sI, y26, (.ci 10)), (.sB, y27, y21), (.sI, y28, qA21), (.sI, y29, y2), (.sS, y30, (.cs [])), qA31, (.sI, y32, y4), qA26, (.sI, y34, y19), (.sB, y35, qA10), (.sB, y36, qA10), (.sB, y37, qA10), (.sB, y38, y23)])) .fail) (.fork (.app 321 tNext_2) (.leaf (some
 [(.sI, y24, qA21), qA23, (.sI, y26, (.ci 8)), (.sB, y27, y21), (.sI, y28, qA21), (.sI, y29, y2), (.sS, y30, (.cs [])), qA31, (.sI, y32, y4), qA26, (.sI, y34, y19), (.sB, y35, qA10), (.sB, y36, qA10), (.sB, y37, qA10), (.sB, y38, y23)])) .fail)) (.fork y23 (.fork (.app 321 tNext_2) (.leaf (some [(.sI, y24, qA21), (.sB, y25, qA17), (.sI, y26, (.ci 8)), (.sB, y27, qA17), (.sI, y28, qA21), (.sI, y29, y2),
 (.sS, y30, (.cs [])), qA31, (.sI, y32, y4), qA26, (.sI, y34, y19), (.sB, y35, y20), (.sB, y36, y21), (.sB, y37, y22), (.sB, y38, qA10)])) .fail) (.fork (.app 129 (tp [y0, y4])) (.fork (.and (.ib .leq .i64 qA21 y4) (.ib .lss .i64 y4 y17)) (.fork (.app 321 tNext_3) (.leaf (some [(.sI, y24, qA21), (.sB, y25, qA17), (.sI, y26, (.ci 7)), (.sB, y27, qA10), (.sI, y28, (.app 128 (tp [y0, y4]))), (.sI, y29,
 y2), (.sS, y30, (.lget y18 (.plus y16 y4) 0)), qA31, (.sI, y32, qA39), (.sI, y33, (.app 320 tNext_3)), (.sI, y34, tNext_4), (.sB, y35, y20), (.sB, y36, y21), (.sB, y37, y22), (.sB, y38, y23)])) .fail) .fail) .fail))))) .fail)
set_option maxRecDepth 100000 in
theorem tNext_eq : SNext.tree Try.prog env1 33 = tNext := by kernel_rfl
abbrev qA29 : Tm := (tp [y0, (.app 128 (tp [y0, y19])), y29])
abbrev tHear_0 : Tm :=
 (.not (.app 257 qA29))
abbrev tHear_1 : Tm :=
 (tp [y0, y4, y5, y16, y17, y19, (.app 256 qA29)])
abbrev qA18 : Tm := (tp [y2, y8, y9, y20, y22, y28, y30])
abbrev tHear_2 : Tm :=
 (.app 456 qA18)
abbrev tHear_3 : Tm :=
 (.ib .gtr .i64 (.app 256 qA29) qA21)
abbrev tHear_4 : Tm :=
 (tp [qA21, y6, qA10, qA10, y11, y12, y15, (.app 388 tHear_1), tHear_3])
abbrev tHear_5 : Tm :=
 (.app 448 qA18)
abbrev tHear_6 : Tm :=
 (.app 449 qA18)
abbrev tHear_7 : Tm :=
 (.app 451 qA18)
abbrev tHear_8 : Tm :=
 (.app 452 qA18)
abbrev tHear_9 : Tm :=
 (.app 453 qA18)
abbrev tHear_10 : Tm :=
 (.app 455 qA18)
abbrev tHear_11 : Tm :=
 (.app 454 qA18)
abbrev tHear_12 : Tm :=
 (tp [qA21, y6, qA10, y10, y11, y12, y15, (.app 388 tHear_1), tHear_3])
abbrev tHear_13 : Tm :=
 (tp [(.app 385 tHear_1), y6, qA10, y10, y11, y12, y15, (.app 388 tHear_1), tHear_3])
abbrev tHear_14 : Tm :=
 (tp [qA21, y6, qA17, qA10, y11, y12, y15, (.app 388 tHear_1), tHear_3])
abbrev tHear_15 : Tm :=
 (tp [qA21, y6, qA17, y10, y11, y12, y15, (.app 388 tHear_1), tHear_3])
abbrev tHear_16 : Tm :=
 (tp [qA21, y6, y7, qA10, y11, y12, y15, (.app 388 tHear_1), tHear_3])
abbrev tHear_17 : Tm :=
 (tp [(.app 385 tHear_1), y6, y7, y10, y11, y12, y15, (.app 388 tHear_1), tHear_3])
abbrev qA9 : Tree (Option Eqs) := (.leaf (some [(.sS, y31, (.cs [])), (.sB, y32, (.cb false)), (.sI, y33, (.ci 0)), (.sB, y34, (.cb false)), (.sI, y35, y0), (.sI, y36, y2), (.sI, y37, y4), (.sI, y38, y5), (.sI, y39, y6), (.sB, y40, y7), (.sB, y41, y9), (.sB, y42, y10), (.sB, y43, y12), (.sI, y44, y16), (.sI, y45, y17), (.sI, y46, y19), (.sB, y47, y20), (.sB, y48, y21), (.sB, y49, y22), (.sB, y50, y23)]))
abbrev qA16 : Tm := (.ib .eql .u8 y26 (.ci 7))
abbrev qA34 : Sr × Tm × Tm := (.sS, y31, tHear_5)
abbrev qA35 : Sr × Tm × Tm := (.sB, y32, tHear_6)
abbrev qA0 : Sr × Tm × Tm := (.sI, y33, (.app 256 (tp [y0, (.app 128 (tp [y0, y19])), y29])))
abbrev qA36 : Sr × Tm × Tm := (.sB, y34, tHear_7)
abbrev qA12 : Sr × Tm × Tm := (.sI, y35, (.app 384 tHear_1))
abbrev qA37 : Sr × Tm × Tm := (.sI, y36, tHear_8)
abbrev qA27 : Sr × Tm × Tm := (.sI, y37, qA21)
abbrev qA38 : Sr × Tm × Tm := (.sB, y41, tHear_9)
abbrev qA22 : Sr × Tm × Tm := (.sB, y43, y12)
abbrev qA13 : Sr × Tm × Tm := (.sI, y44, (.app 387 tHear_1))
abbrev qA14 : Sr × Tm × Tm := (.sI, y45, (.app 388 tHear_1))
abbrev qA15 : Sr × Tm × Tm := (.sI, y46, (.app 389 tHear_1))
abbrev qA32 : Sr × Tm × Tm := (.sB, y49, tHear_11)
abbrev qA3 : Tree (Option Eqs) := (.fork (.app 321 tHear_12) (.leaf (some [(.sS, y31, tHear_5), (.sB, y32, tHear_6), qA0, (.sB, y34, tHear_7), (.sI, y35, (.app 384 tHear_1)), (.sI, y36, tHear_8), (.sI, y37, (.ci 0)), (.sI, y38, (.app 386 tHear_1)), (.sI, y39, (.app 320 tHear_12)), (.sB, y40, (.cb false)), (.sB, y41, tHear_9), (.sB, y42, y10), (.sB, y43, y12), (.sI, y44, (.app 387 tHear_1)), (.sI, y45, (.app 388 tHear_1)), (.sI, y46, (.app 389 tHear_1)), (.sB, y47, tHear_10), (.sB, y48, y21), (.sB, y49, tHear_11), (.sB, y50, y23)])) .fail)
abbrev qA7 : Tree (Option Eqs) := (.fork (.app 321 tHear_12) (.leaf (some [(.sS, y31, (.cs [])), (.sB, y32, (.cb false)), qA0, (.sB, y34, (.cb false)), (.sI, y35, (.app 384 tHear_1)), (.sI, y36, y2), (.sI, y37, (.ci 0)), (.sI, y38, (.app 386 tHear_1)), (.sI, y39, (.app 320 tHear_12)), (.sB, y40, (.cb false)), (.sB, y41, y9), (.sB, y42, y10), (.sB, y43, y12), (.sI, y44, (.app 387 tHear_1)), (.sI, y45, (.app 388 tHear_1)), (.sI, y46, (.app 389 tHear_1)), (.sB, y47, y20), (.sB, y48, y21), (.sB, y49, y22), (.sB, y50, y23)])) .fail)
abbrev qA20 : Sr × Tm × Tm := (.sI, y38, (.app 386 tHear_1))
abbrev qA1 : Tree (Option Eqs) := (.fork (.app 321 tHear_13) (.leaf (some [(.sS, y31, tHear_5), (.sB, y32, tHear_6), qA0, (.sB, y34, tHear_7), (.sI, y35, (.app 384 tHear_1)), (.sI, y36, tHear_8), (.sI, y37, (.app 385 tHear_1)), (.sI, y38, (.app 386 tHear_1)), (.sI, y39, (.app 320 tHear_13)), (.sB, y40, (.cb false)), (.sB, y41, tHear_9), (.sB, y42, y10), (.sB, y43, y12), (.sI, y44, (.app 387 tHear_1)), (.sI, y45, (.app 388 tHear_1)), (.sI, y46, (.app 389 tHear_1)), (.sB, y47, tHear_10), (.sB, y48, y21), (.sB, y49, tHear_11), (.sB, y50, y23)])) .fail)
abbrev qA4 : Tree (Option Eqs) := (.fork (.app 321 tHear_13) (.leaf (some [(.sS, y31, (.cs [])), (.sB, y32, (.cb false)), qA0, (.sB, y34, (.cb false)), (.sI, y35, (.app 384 tHear_1)), (.sI, y36, y2), (.sI, y37, (.app 385 tHear_1)), (.sI, y38, (.app 386 tHear_1)), (.sI, y39, (.app 320 tHear_13)), (.sB, y40, (.cb false)), (.sB, y41, y9), (.sB, y42, y10), (.sB, y43, y12), (.sI, y44, (.app 387 tHear_1)), (.sI, y45, (.app 388 tHear_1)), (.sI, y46, (.app 389 tHear_1)), (.sB, y47, y20), (.sB, y48, y21), (.sB, y49, y22), (.sB, y50, y23)])) .fail)
abbrev qA5 : Tree (Option Eqs) := (.fork (.app 321 tHear_15) (.leaf (some [(.sS, y31, tHear_5), (.sB, y32, tHear_6), qA0, (.sB, y34, tHear_7), (.sI, y35, (.app 384 tHear_1)), (.sI, y36, tHear_8), (.sI, y37, (.ci 0)), (.sI, y38, (.app 386 tHear_1)), (.sI, y39, (.app 320 tHear_15)), (.sB, y40, (.cb true)), (.sB, y41, tHear_9), (.sB, y42, y10), (.sB, y43, y12), (.sI, y44, (.app 387 tHear_1)), (.sI, y45, (.app 388 tHear_1)), (.sI, y46, (.app 389 tHear_1)), (.sB, y47, tHear_10), (.sB, y48, y21), (.sB, y49, tHear_11), (.sB, y50, y23)])) .fail)
abbrev qA8 : Tree (Option Eqs) := (.fork (.app 321 tHear_15) (.leaf (some [(.sS, y31, (.cs [])), (.sB, y32, (.cb false)), qA0, (.sB, y34, (.cb false)), (.sI, y35, (.app 384 tHear_1)), (.sI, y36, y2), (.sI, y37, (.ci 0)), (.sI, y38, (.app 386 tHear_1)), (.sI, y39, (.app 320 tHear_15)), (.sB, y40, (.cb true)), (.sB, y41, y9), (.sB, y42, y10), (.sB, y43, y12), (.sI, y44, (.app 387 tHear_1)), (.sI, y45, (.app 388 tHear_1)), (.sI, y46, (.app 389 tHear_1)), (.sB, y47, y20), (.sB, y48, y21), (.sB, y49, y22), (.sB, y50, y23)])) .fail)
abbrev qA2 : Tree (Option Eqs) := (.fork (.app 321 tHear_17) (.leaf (some [(.sS, y31, tHear_5), (.sB, y32, tHear_6), qA0, (.sB, y34, tHear_7), (.sI, y35, (.app 384 tHear_1)), (.sI, y36, tHear_8), (.sI, y37, (.app 385 tHear_1)), (.sI, y38, (.app 386 tHear_1)), (.sI, y39, (.app 320 tHear_17)), (.sB, y40, y7), (.sB, y41, tHear_9), (.sB, y42, y10), (.sB, y43, y12), (.sI, y44, (.app 387 tHear_1)), (.sI, y45, (.app 388 tHear_1)), (.sI, y46, (.app 389 tHear_1)), (.sB, y47, tHear_10), (.sB, y48, y21), (.sB, y49, tHear_11), (.sB, y50, y23)])) .fail)
abbrev qA6 : Tree (Option Eqs) := (.fork (.app 321 tHear_17) (.leaf (some [(.sS, y31, (.cs [])), (.sB, y32, (.cb false)), qA0, (.sB, y34, (.cb false)), (.sI, y35, (.app 384 tHear_1)), (.sI, y36, y2), (.sI, y37, (.app 385 tHear_1)), (.sI, y38, (.app 386 tHear_1)), (.sI, y39, (.app 320 tHear_17)), (.sB, y40, y7), (.sB, y41, y9), (.sB, y42, y10), (.sB, y43, y12), (.sI, y44, (.app 387 tHear_1)), (.sI, y45, (.app 388 tHear_1)), (.sI, y46, (.app 389 tHear_1)), (.sB, y47, y20), (.sB, y48, y21), (.sB, y49, y22), (.sB, y50, y23)])) .fail)
def tHear : (Tree (Option Eqs)) :=
 (.fork y12 qA9 (.fork (.ib .lss .u8 y26 (.ci 7)) qA9 (.fork (.ib .gtr .u8 y26 (.ci 10)) qA9 (.fork (.app 129 (tp [y0, y19])) (.fork (.app 258 qA29) (.fork tHear_0 (.leaf (some [qA19, qA25, (.sI, y33, qA21), (.sB, y34, qA17), (.sI, y35, y0), (.sI, y36, y2), (.sI, y37, y4), (.sI, y38, y5), (.sI, y39, qA21), (.sB, y40, y7), (.sB, y41, y9), (.sB, y42, y10), (.sB, y43, qA17), (.sI, y44, y16), (.sI, y45,
 y17), (.sI, y46, y19), (.sB, y47, y20), (.sB, y48, y21), (.sB, y49, y22), (.sB, y50, y23)])) (.fork (.app 390 tHear_1) (.fork (.ib .eql .u8 y26 (.ci 10)) (.fork (.not y25) (.fork y27 (.fork y10 (.fork qA16 (.fork tHear_2 (.fork (.app 321 tHear_4) (.leaf (some [qA34, qA35, qA0, qA36, qA12, qA37, qA27, (.sI, y38, qA21), (.sI, y39, (.app 320 tHear_4)), (.sB, y40, qA10), qA38, (.sB, y42, qA10), qA22, qA13,
 qA14, qA15, (.sB, y47, tHear_10), (.sB, y48, y21), qA32, (.sB, y50, qA10)])) .fail) .fail) (.fork (.app 321 tHear_4) (.leaf (some [qA19, qA25, qA0, qA24, qA12, (.sI, y36, y2), qA27, (.sI, y38, qA21), (.sI, y39, (.app 320 tHear_4)), (.sB, y40, qA10), (.sB, y41, y9), (.sB, y42, qA10), qA22, qA13, qA14, qA15, (.sB, y47, y20), (.sB, y48, y21), (.sB, y49, y22), (.sB, y50, qA10)])) .fail)) (.fork qA16 (.fork
 tHear_2 qA3 .fail) qA7)) (.fork qA16 (.fork tHear_2 qA3 .fail) qA7)) (.fork qA16 (.fork tHear_2 (.fork y27 (.fork (.app 321 tHear_12) (.leaf (some [qA34, qA35, qA0, qA36, qA12, qA37, qA27, qA20, (.sI, y39, (.app 320 tHear_12)), (.sB, y40, qA10), qA38, (.sB, y42, y10), qA22, qA13, qA14, qA15, (.sB, y47, qA17), (.sB, y48, qA17), qA32, (.sB, y50, y23)])) .fail) qA3) .fail) (.fork y27 (.fork (.app 321
 tHear_12) (.leaf (some [qA19, qA25, qA0, qA24, qA12, (.sI, y36, y2), qA27, qA20, (.sI, y39, (.app 320 tHear_12)), (.sB, y40, qA10), (.sB, y41, y9), (.sB, y42, y10), qA22, qA13, qA14, qA15, (.sB, y47, qA17), (.sB, y48, qA17), (.sB, y49, y22), (.sB, y50, y23)])) .fail) qA7))) (.fork (.ib .eql .u8 y26 (.ci 8)) (.fork (.not y25) (.fork y27 (.fork y10 (.fork qA16 (.fork tHear_2 (.fork (.app 321 tHear_4)
 (.leaf (some [qA34, qA35, qA0, qA36, qA12, qA37, qA27, (.sI, y38, qA21), (.sI, y39, (.app 320 tHear_4)), (.sB, y40, qA10), qA38, (.sB, y42, qA10), qA22, qA13, qA14, qA15, (.sB, y47, tHear_10), (.sB, y48, y21), qA32, (.sB, y50, qA10)])) .fail) .fail) (.fork (.app 321 tHear_4) (.leaf (some [qA19, qA25, qA0, qA24, qA12, (.sI, y36, y2), qA27, (.sI, y38, qA21), (.sI, y39, (.app 320 tHear_4)), (.sB, y40,
 qA10), (.sB, y41, y9), (.sB, y42, qA10), qA22, qA13, qA14, qA15, (.sB, y47, y20), (.sB, y48, y21), (.sB, y49, y22), (.sB, y50, qA10)])) .fail)) (.fork qA16 (.fork tHear_2 qA1 .fail) qA4)) (.fork qA16 (.fork tHear_2 qA1 .fail) qA4)) (.fork qA16 (.fork tHear_2 (.fork y27 (.fork (.app 321 tHear_13) (.leaf (some [qA34, qA35, qA0, qA36, qA12, qA37, (.sI, y37, (.app 385 tHear_1)), qA20, (.sI, y39, (.app
 320 tHear_13)), (.sB, y40, qA10), qA38, (.sB, y42, y10), qA22, qA13, qA14, qA15, (.sB, y47, qA17), (.sB, y48, qA17), qA32, (.sB, y50, y23)])) .fail) qA1) .fail) (.fork y27 (.fork (.app 321 tHear_13) (.leaf (some [qA19, qA25, qA0, qA24, qA12, (.sI, y36, y2), (.sI, y37, (.app 385 tHear_1)), qA20, (.sI, y39, (.app 320 tHear_13)), (.sB, y40, qA10), (.sB, y41, y9), (.sB, y42, y10), qA22, qA13, qA14, qA15,
 (.sB, y47, qA17), (.sB, y48, qA17), (.sB, y49, y22), (.sB, y50, y23)])) .fail) qA4))) (.fork (.ib .eql .u8 y26 (.ci 9)) (.fork (.not y25) (.fork y27 (.fork y10 (.fork qA16 (.fork tHear_2 (.fork (.app 321 tHear_14) (.leaf (some [qA34, qA35, qA0, qA36, qA12, qA37, qA27, (.sI, y38, qA21), (.sI, y39, (.app 320 tHear_14)), (.sB, y40, qA17), qA38, (.sB, y42, qA10), qA22, qA13, qA14, qA15, (.sB, y47, tHear_10),
 (.sB, y48, y21), qA32, (.sB, y50, qA10)])) .fail) .fail) (.fork (.app 321 tHear_14) (.leaf (some [qA19, qA25, qA0, qA24, qA12, (.sI, y36, y2), qA27, (.sI, y38, qA21), (.sI, y39, (.app 320 tHear_14)), (.sB, y40, qA17), (.sB, y41, y9), (.sB, y42, qA10), qA22, qA13, qA14, qA15, (.sB, y47, y20), (.sB, y48, y21), (.sB, y49, y22), (.sB, y50, qA10)])) .fail)) (.fork qA16 (.fork tHear_2 qA5 .fail) qA8)) (.fork
 qA16 (.fork tHear_2 qA5 .fail) qA8)) (.fork qA16 (.fork tHear_2 (.fork y27 (.fork (.app 321 tHear_15) (.leaf (some [qA34, qA35, qA0, qA36, qA12, qA37, qA27, qA20, (.sI, y39, (.app 320 tHear_15)), (.sB, y40, qA17), qA38, (.sB, y42, y10), qA22, qA13, qA14, qA15, (.sB, y47, qA17), (.sB, y48, qA17), qA32, (.sB, y50, y23)])) .fail) qA5) .fail) (.fork y27 (.fork (.app 321 tHear_15) (.leaf (some [qA19, qA25,
 qA0, qA24, qA12, (.sI, y36, y2), qA27, qA20, (.sI, y39, (.app 320 tHear_15)), (.sB, y40, qA17), (.sB, y41, y9), (.sB, y42, y10), qA22, qA13, qA14, qA15, (.sB, y47, qA17), (.sB, y48, qA17), (.sB, y49, y22), (.sB, y50, y23)])) .fail) qA8))) (.fork (.not y25) (.fork y27 (.fork y10 (.fork qA16 (.fork tHear_2 (.fork (.app 321 tHear_16) (.leaf (some [qA34, qA35, qA0, qA36, qA12, qA37, qA27, (.sI, y38, qA21),
 (.sI, y39, (.app 320 tHear_16)), (.sB, y40, y7), qA38, (.sB, y42, qA10), qA22, qA13, qA14, qA15, (.sB, y47, tHear_10), (.sB, y48, y21), qA32, (.sB, y50, qA10)])) .fail) .fail) (.fork (.app 321 tHear_16) (.leaf (some [qA19, qA25, qA0, qA24, qA12, (.sI, y36, y2), qA27, (.sI, y38, qA21), (.sI, y39, (.app 320 tHear_16)), (.sB, y40, y7), (.sB, y41, y9), (.sB, y42, qA10), qA22, qA13, qA14, qA15, (.sB, y47,
 y20), (.sB, y48, y21), (.sB, y49, y22), (.sB, y50, qA10)])) .fail)) (.fork qA16 (.fork tHear_2 qA2 .fail) qA6)) (.fork qA16 (.fork tHear_2 qA2 .fail) qA6)) (.fork qA16 (.fork tHear_2 (.fork y27 (.fork (.app 321 tHear_17) (.leaf (some [qA34, qA35, qA0, qA36, qA12, qA37, (.sI, y37, (.app 385 tHear_1)), qA20, (.sI, y39, (.app 320 tHear_17)), (.sB, y40, y7), qA38, (.sB, y42, y10), qA22, qA13, qA14, qA15,
 (.sB, y47, qA17), (.sB, y48, qA17), qA32, (.sB, y50, y23)])) .fail) qA2) .fail) (.fork y27 (.fork (.app 321 tHear_17) (.leaf (some [qA19, qA25, qA0, qA24, qA12, (.sI, y36, y2), (.sI, y37, (.app 385 tHear_1)), qA20, (.sI, y39, (.app 320 tHear_17)), (.sB, y40, y7), (.sB, y41, y9), (.sB, y42, y10), qA22, qA13, qA14, qA15, (.sB, y47, qA17), (.sB, y48, qA17), (.sB, y49, y22), (.sB, y50, y23)])) .fail) qA6))))))
 .fail)) .fail) .fail))))
set_option maxRecDepth 100000 in
theorem tHear_eq : SHear.tree Try.prog env1 37 = tHear := by kernel_rfl
abbrev tBusy_0 : Tm :=
 (tp [y4, y6, y7, y10, y11, y12, y15, y17, qA10])
def tBusy : (Tree (Option Eqs)) :=
 (.fork y12 (.leaf (some [(.sI, y25, y6), (.sB, y26, y8), (.sB, y27, y20)])) (.fork (.beq y8 y24) (.leaf (some [(.sI, y25, y6), (.sB, y26, y8), (.sB, y27, y20)])) (.fork (.app 321 tBusy_0) (.leaf (some [(.sI, y25, (.app 320 tBusy_0)), (.sB, y26, y24), (.sB, y27, qA17)])) .fail)))
set_option maxRecDepth 100000 in
theorem tBusy_eq : SBusy.tree Try.prog env1 34 = tBusy := by kernel_rfl
abbrev tWant_0 : Tm :=
 (tp [y4, y6, y7, y10, y24, y12, y15, y17, qA10])
def tWant : (Tree (Option Eqs)) :=
 (.fork y12 (.leaf (some [(.sI, y25, y6), (.sB, y26, y11)])) (.fork (.app 321 tWant_0) (.leaf (some [(.sI, y25, (.app 320 tWant_0)), (.sB, y26, y24)])) .fail))
set_option maxRecDepth 100000 in
theorem tWant_eq : SWant.tree Try.prog env1 35 = tWant := by kernel_rfl
abbrev qA28 : Sr × Tm × Tm := (.sS, y24, (.cs []))
abbrev qA30 : Tm := (.ib .add .i64 y5 (.ci 1))
def tTick : (Tree (Option Eqs)) :=
 (.fork y12 (.leaf (some [qA28, qA23, qA33, (.sB, y27, qA10), (.sI, y28, y5), (.sI, y29, y6), (.sB, y30, y10), (.sB, y31, y12), (.sB, y32, y23)])) (.fork (.ib .eql .i64 y6 qA21) (.leaf (some [qA28, qA23, qA33, (.sB, y27, qA10), (.sI, y28, y5), (.sI, y29, y6), (.sB, y30, y10), (.sB, y31, y12), (.sB, y32, y23)])) (.fork (.ib .gtr .i64 (.ib .sub .i64 y6 (.ci 1)) qA21) (.leaf (some [qA28, qA23, qA33, (.sB,
 y27, qA10), (.sI, y28, y5), (.sI, y29, (.ib .sub .i64 y6 (.ci 1))), (.sB, y30, y10), (.sB, y31, y12), (.sB, y32, y23)])) (.fork (.ib .gtr .i64 y4 qA21) (.fork (.ib .gtr .i64 qA30 y14) (.leaf (some [qA28, qA23, qA33, (.sB, y27, qA17), (.sI, y28, qA30), (.sI, y29, qA21), (.sB, y30, y10), qA31, (.sB, y32, y23)])) (.leaf (some [qA28, qA23, qA33, (.sB, y27, qA10), (.sI, y28, qA30), (.sI, y29, y15), (.sB,
 y30, qA17), (.sB, y31, y12), (.sB, y32, qA17)]))) (.fork y10 (.fork (.ib .gtr .i64 qA30 y14) (.leaf (some [qA28, qA23, qA33, (.sB, y27, qA17), (.sI, y28, qA30), (.sI, y29, qA21), (.sB, y30, y10), qA31, (.sB, y32, y23)])) (.leaf (some [qA28, qA23, qA33, (.sB, y27, qA10), (.sI, y28, qA30), (.sI, y29, y15), (.sB, y30, qA17), (.sB, y31, y12), (.sB, y32, qA17)]))) (.fork (.ib .gtr .i64 y5 y14) (.leaf (some
 [qA28, qA23, qA33, (.sB, y27, qA17), (.sI, y28, y5), (.sI, y29, qA21), (.sB, y30, y10), qA31, (.sB, y32, y23)])) (.leaf (some [qA28, qA23, qA33, (.sB, y27, qA10), (.sI, y28, y5), (.sI, y29, y15), (.sB, y30, qA17), (.sB, y31, y12), (.sB, y32, qA17)]))))))))
set_option maxRecDepth 100000 in
theorem tTick_eq : STick.tree Try.prog env1 38 = tTick := by kernel_rfl
def tView : (Tree (Option Eqs)) :=
 (.fork (.app 129 (tp [y0, y4])) (.leaf (some [(.sI, y24, y0), (.sI, y25, (.app 128 (tp [y0, y4]))), (.sI, y26, y2), (.sI, y27, y17), (.sI, y28, y4), (.sI, y29, y5), (.sI, y30, y6), (.sB, y31, y7), (.sB, y32, y8), (.sB, y33, y9), (.sB, y34, y10), (.sB, y35, y11), (.sB, y36, y12)])) .fail)
set_option maxRecDepth 100000 in
theorem tView_eq : SView.tree Try.prog env1 25 = tView := by kernel_rfl
end
end Go.Proofs.Ytlbkficdelepeaa.Ab
