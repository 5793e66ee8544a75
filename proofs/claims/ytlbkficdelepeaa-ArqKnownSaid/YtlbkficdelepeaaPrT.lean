/-
  ArqPair: what a round of its loop does, as a tree.
  No condition.
-/
import Derived.Test.YtlbkficdelepeaaPrM
import Derived.Test.YtlbkficdelepeaaVw
namespace Go.Proofs.Ytlbkficdelepeaa.Ab
set_option linter.unusedSimpArgs false
set_option linter.unusedVariables false
open Go
noncomputable section
abbrev rtPr_0 : Tm :=
 (.and (.ib .leq .i64 (.ci 0) y4) (.ib .lss .i64 y4 (.llen y0)))
abbrev rtPr_1 : Tm :=
 (.sb .add (.oct (.wrap .u8 (.ib .quo .i64 y54 (.ci 256)))) (.sb .add (.oct (.wrap .u8 y54)) (.cs [])))
abbrev rtPr_2 : Tm :=
 (tp [y29, y30, y31, y32, y33, y34, y35, y36, y37, y38, y39, y40, y41, y42, y43, y44, y45, y46, y47, y48, y49, y50, y51, y52, rtPr_1])
abbrev qP93 : Tm := (.ci 1)
abbrev qP58 : Tm := (.app 579 rtPr_2)
abbrev rtPr_3 : Tm :=
 (.ib .lss .i64 y56 (.ib .sub .i64 (.ib .add .i64 y54 qP93) qP58))
abbrev rtPr_4 : Tm :=
 (tp [y29, y30, y31, y32, y33, y34, y35, y36, y37, y38, y39, y40, y41, y42, y43, y44, y45, y46, y47, y48, y49, y50, y51, y52])
abbrev rtPr_5 : Tm :=
 (tp [(.app 640 rtPr_4), (.app 641 rtPr_4), (.app 642 rtPr_4), (.app 643 rtPr_4), (.app 644 rtPr_4), (.app 645 rtPr_4), (.app 646 rtPr_4)])
abbrev rtPr_6 : Tm :=
 (tp [y5, y6, y7, y8, y9, y10, y11, y12, y13, y14, y15, y16, y17, y18, y19, y20, y21, y22, y23, y24, y25, y26, y27, y28, (.lget y63 y61 0), (.lget y63 y61 1), (.lget y63 y61 2), (.lget y63 y61 3), (.lget y63 y61 4), (.lget y63 y61 5), (.lget y63 y61 6)])
abbrev rtPr_7 : Tm :=
 (.sb .add (.oct (.wrap .u8 (.ib .quo .i64 y56 (.ci 256)))) (.sb .add (.oct (.wrap .u8 y56)) (.cs [])))
abbrev rtPr_8 : Tm :=
 (.ib .lss .i64 (.ib .add .i64 y56 qP93) (.ib .sub .i64 y54 y46))
abbrev rtPr_9 : Tm :=
 (tp [y5, y6, y7, y8, y9, y10, y11, y12, y13, y14, y15, y16, y17, y18, y19, y20, y21, y22, y23, y24, y25, y26, y27, y28])
abbrev rtPr_10 : Tm :=
 (tp [y29, y30, y31, y32, y33, y34, y35, y36, y37, y38, y39, y40, y41, y42, y43, y44, y45, y46, y47, y48, y49, y50, y51, y52, (.lget y0 y4 2)])
abbrev rtPr_11 : Tm :=
 (.sb .add (.oct (.wrap .u8 (.ib .quo .i64 y53 (.ci 256)))) (.sb .add (.oct (.wrap .u8 y53)) (.cs [])))
abbrev rtPr_12 : Tm :=
 (tp [y5, y6, y7, y8, y9, y10, y11, y12, y13, y14, y15, y16, y17, y18, y19, y20, y21, y22, y23, y24, y25, y26, y27, y28, rtPr_11])
abbrev qP49 : Tm := (.app 579 rtPr_12)
abbrev rtPr_13 : Tm :=
 (.ib .lss .i64 y55 (.ib .sub .i64 (.ib .add .i64 y53 qP93) qP49))
abbrev rtPr_14 : Tm :=
 (tp [(.app 640 rtPr_9), (.app 641 rtPr_9), (.app 642 rtPr_9), (.app 643 rtPr_9), (.app 644 rtPr_9), (.app 645 rtPr_9), (.app 646 rtPr_9)])
abbrev rtPr_15 : Tm :=
 (tp [y29, y30, y31, y32, y33, y34, y35, y36, y37, y38, y39, y40, y41, y42, y43, y44, y45, y46, y47, y48, y49, y50, y51, y52, (.lget y60 y58 0), (.lget y60 y58 1), (.lget y60 y58 2), (.lget y60 y58 3), (.lget y60 y58 4), (.lget y60 y58 5), (.lget y60 y58 6)])
abbrev rtPr_16 : Tm :=
 (.sb .add (.oct (.wrap .u8 (.ib .quo .i64 y55 (.ci 256)))) (.sb .add (.oct (.wrap .u8 y55)) (.cs [])))
abbrev rtPr_17 : Tm :=
 (.ib .lss .i64 (.ib .add .i64 y55 qP93) (.ib .sub .i64 y53 y22))
abbrev rtPr_18 : Tm :=
 (tp [y5, y6, y7, y8, y9, y10, y11, y12, y13, y14, y15, y16, y17, y18, y19, y20, y21, y22, y23, y24, y25, y26, y27, y28, (.lget y0 y4 2)])
abbrev qP11 : Tm := (.ib .rem .u8 (.lget y0 y4 0) (.ci 9))
abbrev qP13 : Tm := (.app 129 (tp [y5, y9]))
abbrev qP7 : Tm := (.ib .gtr .i64 y55 y53)
abbrev qP0 : Tree (AX × Option Eqs) := (.leaf (.ret, (some [])))
abbrev qP9 : Tm := (.ib .gtr .i64 y22 (.ci 7))
abbrev qP18 : Tm := (.ib .gtr .i64 y9 y22)
abbrev qP5 : Tm := (.ib .lss .i64 y55 (.ib .sub .i64 y53 y22))
abbrev qP12 : Tm := (.app 129 (tp [y29, y33]))
abbrev qP14 : Tm := (.ib .gtr .i64 y22 y1)
abbrev qP4 : Sr × Tm × Tm := (.sI, y4, (.ib .add .i64 y4 (.ci 1)))
abbrev qP33 : Sr × Tm × Tm := (.sL, y63, y63)
abbrev qP34 : Sr × Tm × Tm := (.sL, y60, y60)
abbrev qP41 : Sr × Tm × Tm := (.sL, y23, y23)
abbrev qP20 : Sr × Tm × Tm := (.sB, y57, y57)
abbrev qP35 : Sr × Tm × Tm := (.sI, y55, y55)
abbrev qP36 : Sr × Tm × Tm := (.sI, y56, y56)
abbrev qP37 : Sr × Tm × Tm := (.sI, y53, y53)
abbrev qP59 : Sr × Tm × Tm := (.sI, y58, y58)
abbrev qP60 : Sr × Tm × Tm := (.sI, y59, y59)
abbrev qP61 : Sr × Tm × Tm := (.sI, y61, y61)
abbrev qP62 : Sr × Tm × Tm := (.sI, y62, y62)
abbrev qP42 : Sr × Tm × Tm := (.sI, y29, y29)
abbrev qP21 : Sr × Tm × Tm := (.sI, y30, y30)
abbrev qP43 : Sr × Tm × Tm := (.sI, y31, y31)
abbrev qP22 : Sr × Tm × Tm := (.sI, y32, y32)
abbrev qP63 : Sr × Tm × Tm := (.sI, y33, y33)
abbrev qP52 : Sr × Tm × Tm := (.sI, y34, y34)
abbrev qP44 : Sr × Tm × Tm := (.sB, y36, y36)
abbrev qP31 : Sr × Tm × Tm := (.sB, y37, y37)
abbrev qP45 : Sr × Tm × Tm := (.sB, y38, y38)
abbrev qP53 : Sr × Tm × Tm := (.sB, y39, y39)
abbrev qP23 : Sr × Tm × Tm := (.sB, y40, y40)
abbrev qP54 : Sr × Tm × Tm := (.sB, y41, y41)
abbrev qP24 : Sr × Tm × Tm := (.sI, y42, y42)
abbrev qP25 : Sr × Tm × Tm := (.sI, y43, y43)
abbrev qP26 : Sr × Tm × Tm := (.sI, y44, y44)
abbrev qP64 : Sr × Tm × Tm := (.sI, y48, y48)
abbrev qP76 : Sr × Tm × Tm := (.sB, y49, y49)
abbrev qP65 : Sr × Tm × Tm := (.sB, y50, y50)
abbrev qP66 : Sr × Tm × Tm := (.sB, y51, y51)
abbrev qP80 : Sr × Tm × Tm := (.sB, y52, y52)
abbrev qP77 : Sr × Tm × Tm := (.sI, y5, y5)
abbrev qP50 : Sr × Tm × Tm := (.sI, y6, y6)
abbrev qP78 : Sr × Tm × Tm := (.sI, y7, y7)
abbrev qP51 : Sr × Tm × Tm := (.sI, y8, y8)
abbrev qP84 : Sr × Tm × Tm := (.sI, y9, y9)
abbrev qP55 : Sr × Tm × Tm := (.sI, y10, y10)
abbrev qP87 : Sr × Tm × Tm := (.sI, y11, y11)
abbrev qP46 : Sr × Tm × Tm := (.sB, y12, y12)
abbrev qP32 : Sr × Tm × Tm := (.sB, y13, y13)
abbrev qP47 : Sr × Tm × Tm := (.sB, y14, y14)
abbrev qP56 : Sr × Tm × Tm := (.sB, y15, y15)
abbrev qP27 : Sr × Tm × Tm := (.sB, y16, y16)
abbrev qP57 : Sr × Tm × Tm := (.sB, y17, y17)
abbrev qP28 : Sr × Tm × Tm := (.sI, y18, y18)
abbrev qP29 : Sr × Tm × Tm := (.sI, y19, y19)
abbrev qP30 : Sr × Tm × Tm := (.sI, y20, y20)
abbrev qP67 : Sr × Tm × Tm := (.sI, y21, y21)
abbrev qP68 : Sr × Tm × Tm := (.sI, y22, y22)
abbrev qP69 : Sr × Tm × Tm := (.sI, y24, y24)
abbrev qP79 : Sr × Tm × Tm := (.sB, y25, y25)
abbrev qP70 : Sr × Tm × Tm := (.sB, y26, y26)
abbrev qP71 : Sr × Tm × Tm := (.sB, y27, y27)
abbrev qP81 : Sr × Tm × Tm := (.sB, y28, y28)
abbrev qP8 : Tm := (.ib .gtr .i64 y56 y54)
abbrev qP38 : Sr × Tm × Tm := (.sI, y54, y54)
abbrev qP85 : Tm := (.app 648 rtPr_4)
abbrev qP10 : Tm := (.ib .gtr .i64 y46 (.ci 7))
abbrev qP6 : Tm := (.ib .lss .i64 y56 (.ib .sub .i64 y54 y46))
abbrev qP15 : Tm := (.ib .gtr .i64 y46 y1)
abbrev qP92 : Tm := (.lapp (.lcut y63 y61 y62) (.row rtPr_5))
abbrev qP48 : Sr × Tm × Tm := (.sL, y47, y47)
abbrev qP72 : Sr × Tm × Tm := (.sI, y45, y45)
abbrev qP73 : Sr × Tm × Tm := (.sI, y46, y46)
abbrev qP1 : Tree (AX × Option Eqs) := (.fork (.app 129 (tp [y5, y9])) (.fork (.ib .gtr .i64 y55 y53) qP0 (.fork (.ib .gtr .i64 y22 (.ci 7)) qP0 (.fork (.ib .gtr .i64 y9 y22) qP0 (.fork (.ib .lss .i64 y55 (.ib .sub .i64 y53 y22)) qP0 (.fork (.app 129 (tp [y29, y33])) (.fork (.ib .gtr .i64 y56 y54) qP0 (.fork (.ib .gtr .i64 y46 (.ci 7)) qP0 (.fork (.ib .gtr .i64 y33 y46) qP0 (.fork (.ib .lss .i64 y56 (.ib .sub .i64 y54 y46)) qP0 (.fork y57 qP0 (.fork (.ib .gtr .i64 y22 y1) qP0 (.fork (.ib .gtr .i64 y46 y1) qP0 (.leaf (.normal, (some [(.sI, y4, (.ib .add .i64 y4 (.ci 1))), (.sL, y63, y63), (.sL, y60, y60), (.sL, y47, y47), (.sL, y23, y23), (.sB, y57, y57), (.sI, y55, y55), (.sI, y56, y56), (.sI, y53, y53), (.sI, y54, y54), (.sI, y58, y58), (.sI, y59, y59), (.sI, y61, y61), (.sI, y62, y62), (.sI, y29, y29), (.sI, y30, y30), (.sI, y31, y31), (.sI, y32, y32), (.sI, y33, y33), (.sI, y34, y34), (.sI, y35, y35), (.sB, y36, y36), (.sB, y37, y37), (.sB, y38, y38), (.sB, y39, y39), (.sB, y40, y40), (.sB, y41, y41), (.sI, y42, y42), (.sI, y43, y43), (.sI, y44, y44), (.sI, y45, y45), (.sI, y46, y46), (.sI, y48, y48), (.sB, y49, y49), (.sB, y50, y50), (.sB, y51, y51), (.sB, y52, y52), (.sI, y5, y5), (.sI, y6, y6), (.sI, y7, y7), (.sI, y8, y8), (.sI, y9, y9), (.sI, y10, y10), (.sI, y11, y11), (.sB, y12, y12), (.sB, y13, y13), (.sB, y14, y14), (.sB, y15, y15), (.sB, y16, y16), (.sB, y17, y17), (.sI, y18, y18), (.sI, y19, y19), (.sI, y20, y20), (.sI, y21, y21), (.sI, y22, y22), (.sI, y24, y24), (.sB, y25, y25), (.sB, y26, y26), (.sB, y27, y27), (.sB, y28, y28)])))))))))) .fail))))) .fail)
abbrev qP95 : Tm := (.sb .neq (.app 704 rtPr_6) rtPr_7)
abbrev qP3 : Tree (AX × Option Eqs) := (.fork (.app 129 (tp [(.app 708 rtPr_6), (.app 710 rtPr_6)])) (.fork (.ib .gtr .i64 y55 y53) qP0 (.fork (.ib .gtr .i64 (.app 718 rtPr_6) (.ci 7)) qP0 (.fork (.ib .gtr .i64 (.app 710 rtPr_6) (.app 718 rtPr_6)) qP0 (.fork (.ib .lss .i64 y55 (.ib .sub .i64 y53 (.app 718 rtPr_6))) qP0 (.fork (.app 129 (tp [y29, y33])) (.fork (.ib .gtr .i64 (.ib .add .i64 y56 (.ci 1)) y54) qP0 (.fork (.ib .gtr .i64 y46 (.ci 7)) qP0 (.fork (.ib .gtr .i64 y33 y46) qP0 (.fork rtPr_8 qP0 qP0)))) .fail))))) .fail)
abbrev qP40 : Tm := (.app 129 (tp [(.app 708 rtPr_6), (.app 710 rtPr_6)]))
abbrev qP19 : Tm := (.app 718 rtPr_6)
abbrev qP89 : Tm := (.ib .gtr .i64 qP19 (.ci 7))
abbrev qP83 : Tm := (.ib .gtr .i64 (.app 710 rtPr_6) qP19)
abbrev qP74 : Tm := (.ib .lss .i64 y55 (.ib .sub .i64 y53 qP19))
abbrev qP16 : Tm := (.ib .gtr .i64 y33 y46)
abbrev qP96 : Sr × Tm × Tm := (.sI, y62, (.minus y62 qP93))
abbrev qP88 : Sr × Tm × Tm := (.sI, y35, y35)
abbrev qP86 : Tm := (.app 648 rtPr_9)
abbrev qP91 : Tm := (.lapp (.lcut y60 y58 y59) (.row rtPr_14))
abbrev qP94 : Tm := (.sb .neq (.app 704 rtPr_15) rtPr_16)
abbrev qP2 : Tree (AX × Option Eqs) := (.fork (.app 129 (tp [y5, y9])) (.fork (.ib .gtr .i64 (.ib .add .i64 y55 (.ci 1)) y53) qP0 (.fork (.ib .gtr .i64 y22 (.ci 7)) qP0 (.fork (.ib .gtr .i64 y9 y22) qP0 (.fork rtPr_17 qP0 (.fork (.app 129 (tp [(.app 708 rtPr_15), (.app 710 rtPr_15)])) (.fork (.ib .gtr .i64 y56 y54) qP0 (.fork (.ib .gtr .i64 (.app 718 rtPr_15) (.ci 7)) qP0 (.fork (.ib .gtr .i64 (.app 710 rtPr_15) (.app 718 rtPr_15)) qP0 (.fork (.ib .lss .i64 y56 (.ib .sub .i64 y54 (.app 718 rtPr_15))) qP0 qP0)))) .fail))))) .fail)
abbrev qP39 : Tm := (.app 129 (tp [(.app 708 rtPr_15), (.app 710 rtPr_15)]))
abbrev qP17 : Tm := (.app 718 rtPr_15)
abbrev qP90 : Tm := (.ib .gtr .i64 qP17 (.ci 7))
abbrev qP82 : Tm := (.ib .gtr .i64 (.app 710 rtPr_15) qP17)
abbrev qP75 : Tm := (.ib .lss .i64 y56 (.ib .sub .i64 y54 qP17))
abbrev qP97 : Sr × Tm × Tm := (.sI, y59, (.minus y59 qP93))
def rtPr : (Tree (AX × Option Eqs)) :=
 (.fork (.ib .lss .i64 y4 (.llen y0)) (.fork rtPr_0 (.fork (.lget y0 y4 1) (.fork (.ib .eql .u8 qP11 (.ci 0)) (.fork (.app 581 rtPr_2) (.fork (.ib .eql .i64 (.app 576 rtPr_2) (.ci 0)) (.fork qP13 (.fork qP7 qP0 (.fork qP9 qP0 (.fork qP18 qP0 (.fork qP5 qP0 (.fork qP12 (.fork (.ib .gtr .i64 y56 (.ib .add .i64 y54 qP93)) qP0 (.fork (.ib .gtr .i64 qP58 (.ci 7)) qP0 (.fork (.ib .gtr .i64 y33 qP58) qP0
 (.fork rtPr_3 qP0 (.fork y57 qP0 (.fork qP14 qP0 (.fork (.ib .gtr .i64 qP58 y1) qP0 (.leaf (.normal, (some [qP4, qP33, qP34, (.sL, y47, (.app 580 rtPr_2)), qP41, qP20, qP35, qP36, qP37, (.sI, y54, (.ib .add .i64 y54 qP93)), qP59, qP60, qP61, qP62, qP42, qP21, qP43, qP22, qP63, qP52, (.sI, y35, (.app 577 rtPr_2)), qP44, qP31, qP45, qP53, qP23, qP54, qP24, qP25, qP26, (.sI, y45, (.app 578 rtPr_2)), (.sI,
 y46, qP58), qP64, qP76, qP65, qP66, qP80, qP77, qP50, qP78, qP51, qP84, qP55, qP87, qP46, qP32, qP47, qP56, qP27, qP57, qP28, qP29, qP30, qP67, qP68, qP69, qP79, qP70, qP71, qP81])))))))))) .fail))))) .fail) (.fork qP13 (.fork qP7 qP0 (.fork qP9 qP0 (.fork qP18 qP0 (.fork qP5 qP0 (.fork qP12 (.fork qP8 qP0 (.fork (.ib .gtr .i64 qP58 (.ci 7)) qP0 (.fork (.ib .gtr .i64 y33 qP58) qP0 (.fork (.ib .lss
 .i64 y56 (.ib .sub .i64 y54 qP58)) qP0 (.fork y57 qP0 (.fork qP14 qP0 (.fork (.ib .gtr .i64 qP58 y1) qP0 (.leaf (.normal, (some [qP4, qP33, qP34, (.sL, y47, (.app 580 rtPr_2)), qP41, qP20, qP35, qP36, qP37, qP38, qP59, qP60, qP61, qP62, qP42, qP21, qP43, qP22, qP63, qP52, (.sI, y35, (.app 577 rtPr_2)), qP44, qP31, qP45, qP53, qP23, qP54, qP24, qP25, qP26, (.sI, y45, (.app 578 rtPr_2)), (.sI, y46, qP58),
 qP64, qP76, qP65, qP66, qP80, qP77, qP50, qP78, qP51, qP84, qP55, qP87, qP46, qP32, qP47, qP56, qP27, qP57, qP28, qP29, qP30, qP67, qP68, qP69, qP79, qP70, qP71, qP81])))))))))) .fail))))) .fail)) .fail) (.fork (.ib .eql .u8 qP11 qP93) (.fork (.app 581 rtPr_2) (.fork (.ib .eql .i64 (.app 576 rtPr_2) (.ci 0)) (.fork qP13 (.fork qP7 qP0 (.fork qP9 qP0 (.fork qP18 qP0 (.fork qP5 qP0 (.fork qP12 (.fork
 (.ib .gtr .i64 y56 (.ib .add .i64 y54 qP93)) qP0 (.fork (.ib .gtr .i64 qP58 (.ci 7)) qP0 (.fork (.ib .gtr .i64 y33 qP58) qP0 (.fork rtPr_3 qP0 (.fork y57 qP0 (.fork qP14 qP0 (.fork (.ib .gtr .i64 qP58 y1) qP0 (.leaf (.normal, (some [qP4, qP33, qP34, (.sL, y47, (.app 580 rtPr_2)), qP41, qP20, qP35, qP36, qP37, (.sI, y54, (.ib .add .i64 y54 qP93)), qP59, qP60, qP61, qP62, qP42, qP21, qP43, qP22, qP63,
 qP52, (.sI, y35, (.app 577 rtPr_2)), qP44, qP31, qP45, qP53, qP23, qP54, qP24, qP25, qP26, (.sI, y45, (.app 578 rtPr_2)), (.sI, y46, qP58), qP64, qP76, qP65, qP66, qP80, qP77, qP50, qP78, qP51, qP84, qP55, qP87, qP46, qP32, qP47, qP56, qP27, qP57, qP28, qP29, qP30, qP67, qP68, qP69, qP79, qP70, qP71, qP81])))))))))) .fail))))) .fail) (.fork qP13 (.fork qP7 qP0 (.fork qP9 qP0 (.fork qP18 qP0 (.fork
 qP5 qP0 (.fork qP12 (.fork qP8 qP0 (.fork (.ib .gtr .i64 qP58 (.ci 7)) qP0 (.fork (.ib .gtr .i64 y33 qP58) qP0 (.fork (.ib .lss .i64 y56 (.ib .sub .i64 y54 qP58)) qP0 (.fork y57 qP0 (.fork qP14 qP0 (.fork (.ib .gtr .i64 qP58 y1) qP0 (.leaf (.normal, (some [qP4, qP33, qP34, (.sL, y47, (.app 580 rtPr_2)), qP41, qP20, qP35, qP36, qP37, qP38, qP59, qP60, qP61, qP62, qP42, qP21, qP43, qP22, qP63, qP52,
 (.sI, y35, (.app 577 rtPr_2)), qP44, qP31, qP45, qP53, qP23, qP54, qP24, qP25, qP26, (.sI, y45, (.app 578 rtPr_2)), (.sI, y46, qP58), qP64, qP76, qP65, qP66, qP80, qP77, qP50, qP78, qP51, qP84, qP55, qP87, qP46, qP32, qP47, qP56, qP27, qP57, qP28, qP29, qP30, qP67, qP68, qP69, qP79, qP70, qP71, qP81])))))))))) .fail))))) .fail)) .fail) (.fork (.ib .eql .u8 qP11 (.ci 2)) (.fork (.app 655 rtPr_4) (.fork
 (.app 647 rtPr_4) (.fork (.ib .lss .i64 y62 (.ci 4294967295)) (.fork qP13 (.fork qP7 qP0 (.fork qP9 qP0 (.fork qP18 qP0 (.fork qP5 qP0 (.fork (.app 129 (tp [y29, qP85])) (.fork qP8 qP0 (.fork qP10 qP0 (.fork (.ib .gtr .i64 qP85 y46) qP0 (.fork qP6 qP0 (.fork y57 qP0 (.fork qP14 qP0 (.fork qP15 qP0 (.leaf (.normal, (some [qP4, (.sL, y63, qP92), qP34, qP48, qP41, qP20, qP35, qP36, qP37, qP38, qP59, qP60,
 (.sI, y61, (.ci 0)), (.sI, y62, (.llen qP92)), qP42, qP21, qP43, qP22, (.sI, y33, qP85), qP52, (.sI, y35, (.app 649 rtPr_4)), qP44, qP31, qP45, qP53, qP23, qP54, qP24, qP25, qP26, qP72, qP73, (.sI, y48, (.app 650 rtPr_4)), (.sB, y49, (.app 651 rtPr_4)), (.sB, y50, (.app 652 rtPr_4)), (.sB, y51, (.app 653 rtPr_4)), (.sB, y52, (.app 654 rtPr_4)), qP77, qP50, qP78, qP51, qP84, qP55, qP87, qP46, qP32,
 qP47, qP56, qP27, qP57, qP28, qP29, qP30, qP67, qP68, qP69, qP79, qP70, qP71, qP81])))))))))) .fail))))) .fail) .fail) (.fork qP13 (.fork qP7 qP0 (.fork qP9 qP0 (.fork qP18 qP0 (.fork qP5 qP0 (.fork (.app 129 (tp [y29, qP85])) (.fork qP8 qP0 (.fork qP10 qP0 (.fork (.ib .gtr .i64 qP85 y46) qP0 (.fork qP6 qP0 (.fork y57 qP0 (.fork qP14 qP0 (.fork qP15 qP0 (.leaf (.normal, (some [qP4, qP33, qP34, qP48,
 qP41, qP20, qP35, qP36, qP37, qP38, qP59, qP60, qP61, qP62, qP42, qP21, qP43, qP22, (.sI, y33, qP85), qP52, (.sI, y35, (.app 649 rtPr_4)), qP44, qP31, qP45, qP53, qP23, qP54, qP24, qP25, qP26, qP72, qP73, (.sI, y48, (.app 650 rtPr_4)), (.sB, y49, (.app 651 rtPr_4)), (.sB, y50, (.app 652 rtPr_4)), (.sB, y51, (.app 653 rtPr_4)), (.sB, y52, (.app 654 rtPr_4)), qP77, qP50, qP78, qP51, qP84, qP55, qP87,
 qP46, qP32, qP47, qP56, qP27, qP57, qP28, qP29, qP30, qP67, qP68, qP69, qP79, qP70, qP71, qP81])))))))))) .fail))))) .fail)) .fail) (.fork (.ib .eql .u8 qP11 (.ci 3)) (.fork (.app 655 rtPr_4) (.fork (.app 647 rtPr_4) (.fork (.ib .lss .i64 y62 (.ci 4294967295)) (.fork qP13 (.fork qP7 qP0 (.fork qP9 qP0 (.fork qP18 qP0 (.fork qP5 qP0 (.fork (.app 129 (tp [y29, qP85])) (.fork qP8 qP0 (.fork qP10 qP0 (.fork
 (.ib .gtr .i64 qP85 y46) qP0 (.fork qP6 qP0 (.fork y57 qP0 (.fork qP14 qP0 (.fork qP15 qP0 (.leaf (.normal, (some [qP4, (.sL, y63, qP92), qP34, qP48, qP41, qP20, qP35, qP36, qP37, qP38, qP59, qP60, (.sI, y61, (.ci 0)), (.sI, y62, (.llen qP92)), qP42, qP21, qP43, qP22, (.sI, y33, qP85), qP52, (.sI, y35, (.app 649 rtPr_4)), qP44, qP31, qP45, qP53, qP23, qP54, qP24, qP25, qP26, qP72, qP73, (.sI, y48,
 (.app 650 rtPr_4)), (.sB, y49, (.app 651 rtPr_4)), (.sB, y50, (.app 652 rtPr_4)), (.sB, y51, (.app 653 rtPr_4)), (.sB, y52, (.app 654 rtPr_4)), qP77, qP50, qP78, qP51, qP84, qP55, qP87, qP46, qP32, qP47, qP56, qP27, qP57, qP28, qP29, qP30, qP67, qP68, qP69, qP79, qP70, qP71, qP81])))))))))) .fail))))) .fail) .fail) (.fork qP13 (.fork qP7 qP0 (.fork qP9 qP0 (.fork qP18 qP0 (.fork qP5 qP0 (.fork (.app
 129 (tp [y29, qP85])) (.fork qP8 qP0 (.fork qP10 qP0 (.fork (.ib .gtr .i64 qP85 y46) qP0 (.fork qP6 qP0 (.fork y57 qP0 (.fork qP14 qP0 (.fork qP15 qP0 (.leaf (.normal, (some [qP4, qP33, qP34, qP48, qP41, qP20, qP35, qP36, qP37, qP38, qP59, qP60, qP61, qP62, qP42, qP21, qP43, qP22, (.sI, y33, qP85), qP52, (.sI, y35, (.app 649 rtPr_4)), qP44, qP31, qP45, qP53, qP23, qP54, qP24, qP25, qP26, qP72, qP73,
 (.sI, y48, (.app 650 rtPr_4)), (.sB, y49, (.app 651 rtPr_4)), (.sB, y50, (.app 652 rtPr_4)), (.sB, y51, (.app 653 rtPr_4)), (.sB, y52, (.app 654 rtPr_4)), qP77, qP50, qP78, qP51, qP84, qP55, qP87, qP46, qP32, qP47, qP56, qP27, qP57, qP28, qP29, qP30, qP67, qP68, qP69, qP79, qP70, qP71, qP81])))))))))) .fail))))) .fail)) .fail) (.fork (.ib .eql .u8 qP11 (.ci 4)) (.fork (.ib .eql .i64 y62 (.ci 0)) qP1
 (.fork (.ib .lss .i64 (.ci 0) y62) (.fork (.ib .leq .i64 qP93 y62) (.fork (.app 724 rtPr_6) (.fork (.app 707 rtPr_6) (.fork (.app 705 rtPr_6) (.fork qP95 qP3 qP3) (.fork qP40 (.fork qP7 qP0 (.fork qP89 qP0 (.fork qP83 qP0 (.fork qP74 qP0 (.fork qP12 (.fork qP8 qP0 (.fork qP10 qP0 (.fork qP16 qP0 (.fork qP6 qP0 qP0)))) .fail))))) .fail)) (.fork (.app 705 rtPr_6) (.fork qP95 qP3 (.fork qP40 (.fork qP7
 qP0 (.fork qP89 qP0 (.fork qP83 qP0 (.fork qP74 qP0 (.fork qP12 (.fork (.ib .gtr .i64 (.ib .add .i64 y56 qP93) y54) qP0 (.fork qP10 qP0 (.fork qP16 qP0 (.fork rtPr_8 qP0 (.fork y57 qP0 (.fork (.ib .gtr .i64 qP19 y1) qP0 (.fork qP15 qP0 (.leaf (.normal, (some [qP4, qP33, qP34, qP48, qP41, qP20, qP35, (.sI, y56, (.ib .add .i64 y56 qP93)), qP37, qP38, qP59, qP60, (.sI, y61, (.plus y61 qP93)), qP96, qP42,
 qP21, qP43, qP22, qP63, qP52, qP88, qP44, qP31, qP45, qP53, qP23, qP54, qP24, qP25, qP26, qP72, qP73, qP64, qP76, qP65, qP66, qP80, (.sI, y5, (.app 708 rtPr_6)), qP50, (.sI, y7, (.app 709 rtPr_6)), qP51, (.sI, y9, (.app 710 rtPr_6)), (.sI, y10, (.app 711 rtPr_6)), (.sI, y11, (.app 712 rtPr_6)), (.sB, y12, (.app 713 rtPr_6)), qP32, (.sB, y14, (.app 714 rtPr_6)), (.sB, y15, (.app 715 rtPr_6)), qP27,
 (.sB, y17, (.app 716 rtPr_6)), qP28, qP29, qP30, (.sI, y21, (.app 717 rtPr_6)), (.sI, y22, qP19), (.sI, y24, (.app 719 rtPr_6)), (.sB, y25, (.app 720 rtPr_6)), (.sB, y26, (.app 721 rtPr_6)), (.sB, y27, (.app 722 rtPr_6)), (.sB, y28, (.app 723 rtPr_6))])))))))))) .fail))))) .fail)) (.fork qP40 (.fork qP7 qP0 (.fork qP89 qP0 (.fork qP83 qP0 (.fork qP74 qP0 (.fork qP12 (.fork qP8 qP0 (.fork qP10 qP0 (.fork
 qP16 qP0 (.fork qP6 qP0 (.fork y57 qP0 (.fork (.ib .gtr .i64 qP19 y1) qP0 (.fork qP15 qP0 (.leaf (.normal, (some [qP4, qP33, qP34, qP48, qP41, qP20, qP35, qP36, qP37, qP38, qP59, qP60, (.sI, y61, (.plus y61 qP93)), qP96, qP42, qP21, qP43, qP22, qP63, qP52, qP88, qP44, qP31, qP45, qP53, qP23, qP54, qP24, qP25, qP26, qP72, qP73, qP64, qP76, qP65, qP66, qP80, (.sI, y5, (.app 708 rtPr_6)), qP50, (.sI,
 y7, (.app 709 rtPr_6)), qP51, (.sI, y9, (.app 710 rtPr_6)), (.sI, y10, (.app 711 rtPr_6)), (.sI, y11, (.app 712 rtPr_6)), (.sB, y12, (.app 713 rtPr_6)), qP32, (.sB, y14, (.app 714 rtPr_6)), (.sB, y15, (.app 715 rtPr_6)), qP27, (.sB, y17, (.app 716 rtPr_6)), qP28, qP29, qP30, (.sI, y21, (.app 717 rtPr_6)), (.sI, y22, qP19), (.sI, y24, (.app 719 rtPr_6)), (.sB, y25, (.app 720 rtPr_6)), (.sB, y26, (.app
 721 rtPr_6)), (.sB, y27, (.app 722 rtPr_6)), (.sB, y28, (.app 723 rtPr_6))])))))))))) .fail))))) .fail))) .fail) .fail) .fail)) (.fork (.ib .eql .u8 qP11 (.ci 5)) (.fork (.ib .eql .i64 y62 (.ci 0)) qP1 (.fork (.ib .lss .i64 (.ci 0) y62) (.fork (.ib .leq .i64 qP93 y62) (.fork (.app 724 rtPr_6) (.fork (.app 707 rtPr_6) (.fork (.app 705 rtPr_6) (.fork qP95 qP3 qP3) (.fork qP40 (.fork qP7 qP0 (.fork qP89
 qP0 (.fork qP83 qP0 (.fork qP74 qP0 (.fork qP12 (.fork qP8 qP0 (.fork qP10 qP0 (.fork qP16 qP0 (.fork qP6 qP0 qP0)))) .fail))))) .fail)) (.fork (.app 705 rtPr_6) (.fork qP95 qP3 (.fork qP40 (.fork qP7 qP0 (.fork qP89 qP0 (.fork qP83 qP0 (.fork qP74 qP0 (.fork qP12 (.fork (.ib .gtr .i64 (.ib .add .i64 y56 qP93) y54) qP0 (.fork qP10 qP0 (.fork qP16 qP0 (.fork rtPr_8 qP0 (.fork y57 qP0 (.fork (.ib .gtr
 .i64 qP19 y1) qP0 (.fork qP15 qP0 (.leaf (.normal, (some [qP4, qP33, qP34, qP48, qP41, qP20, qP35, (.sI, y56, (.ib .add .i64 y56 qP93)), qP37, qP38, qP59, qP60, (.sI, y61, (.plus y61 qP93)), qP96, qP42, qP21, qP43, qP22, qP63, qP52, qP88, qP44, qP31, qP45, qP53, qP23, qP54, qP24, qP25, qP26, qP72, qP73, qP64, qP76, qP65, qP66, qP80, (.sI, y5, (.app 708 rtPr_6)), qP50, (.sI, y7, (.app 709 rtPr_6)),
 qP51, (.sI, y9, (.app 710 rtPr_6)), (.sI, y10, (.app 711 rtPr_6)), (.sI, y11, (.app 712 rtPr_6)), (.sB, y12, (.app 713 rtPr_6)), qP32, (.sB, y14, (.app 714 rtPr_6)), (.sB, y15, (.app 715 rtPr_6)), qP27, (.sB, y17, (.app 716 rtPr_6)), qP28, qP29, qP30, (.sI, y21, (.app 717 rtPr_6)), (.sI, y22, qP19), (.sI, y24, (.app 719 rtPr_6)), (.sB, y25, (.app 720 rtPr_6)), (.sB, y26, (.app 721 rtPr_6)), (.sB, y27,
 (.app 722 rtPr_6)), (.sB, y28, (.app 723 rtPr_6))])))))))))) .fail))))) .fail)) (.fork qP40 (.fork qP7 qP0 (.fork qP89 qP0 (.fork qP83 qP0 (.fork qP74 qP0 (.fork qP12 (.fork qP8 qP0 (.fork qP10 qP0 (.fork qP16 qP0 (.fork qP6 qP0 (.fork y57 qP0 (.fork (.ib .gtr .i64 qP19 y1) qP0 (.fork qP15 qP0 (.leaf (.normal, (some [qP4, qP33, qP34, qP48, qP41, qP20, qP35, qP36, qP37, qP38, qP59, qP60, (.sI, y61,
 (.plus y61 qP93)), qP96, qP42, qP21, qP43, qP22, qP63, qP52, qP88, qP44, qP31, qP45, qP53, qP23, qP54, qP24, qP25, qP26, qP72, qP73, qP64, qP76, qP65, qP66, qP80, (.sI, y5, (.app 708 rtPr_6)), qP50, (.sI, y7, (.app 709 rtPr_6)), qP51, (.sI, y9, (.app 710 rtPr_6)), (.sI, y10, (.app 711 rtPr_6)), (.sI, y11, (.app 712 rtPr_6)), (.sB, y12, (.app 713 rtPr_6)), qP32, (.sB, y14, (.app 714 rtPr_6)), (.sB,
 y15, (.app 715 rtPr_6)), qP27, (.sB, y17, (.app 716 rtPr_6)), qP28, qP29, qP30, (.sI, y21, (.app 717 rtPr_6)), (.sI, y22, qP19), (.sI, y24, (.app 719 rtPr_6)), (.sB, y25, (.app 720 rtPr_6)), (.sB, y26, (.app 721 rtPr_6)), (.sB, y27, (.app 722 rtPr_6)), (.sB, y28, (.app 723 rtPr_6))])))))))))) .fail))))) .fail))) .fail) .fail) .fail)) (.fork (.ib .eql .u8 qP11 (.ci 6)) (.fork (.ib .eql .i64 y62 (.ci
 0)) qP1 (.fork (.ib .lss .i64 (.ci 0) y62) (.fork (.ib .leq .i64 qP93 y62) (.fork qP13 (.fork qP7 qP0 (.fork qP9 qP0 (.fork qP18 qP0 (.fork qP5 qP0 (.fork qP12 (.fork qP8 qP0 (.fork qP10 qP0 (.fork qP16 qP0 (.fork qP6 qP0 (.fork y57 qP0 (.fork qP14 qP0 (.fork qP15 qP0 (.leaf (.normal, (some [qP4, qP33, qP34, qP48, qP41, qP20, qP35, qP36, qP37, qP38, qP59, qP60, (.sI, y61, (.plus y61 qP93)), qP96, qP42,
 qP21, qP43, qP22, qP63, qP52, qP88, qP44, qP31, qP45, qP53, qP23, qP54, qP24, qP25, qP26, qP72, qP73, qP64, qP76, qP65, qP66, qP80, qP77, qP50, qP78, qP51, qP84, qP55, qP87, qP46, qP32, qP47, qP56, qP27, qP57, qP28, qP29, qP30, qP67, qP68, qP69, qP79, qP70, qP71, qP81])))))))))) .fail))))) .fail) .fail) .fail)) (.fork (.ib .eql .u8 qP11 (.ci 7)) (.fork (.app 905 rtPr_9) (.fork (.app 905 rtPr_4) (.fork
 qP13 (.fork qP7 qP0 (.fork qP9 qP0 (.fork qP18 qP0 (.fork qP5 qP0 (.fork qP12 (.fork qP8 qP0 (.fork qP10 qP0 (.fork qP16 qP0 (.fork qP6 qP0 (.fork y57 qP0 (.fork qP14 qP0 (.fork qP15 qP0 (.leaf (.normal, (some [qP4, qP33, qP34, qP48, qP41, qP20, qP35, qP36, qP37, qP38, qP59, qP60, qP61, qP62, qP42, qP21, qP43, qP22, qP63, (.sI, y34, (.app 900 rtPr_4)), (.sI, y35, (.app 901 rtPr_4)), qP44, qP31, qP45,
 (.sB, y39, (.app 902 rtPr_4)), qP23, (.sB, y41, (.app 903 rtPr_4)), qP24, qP25, qP26, qP72, qP73, qP64, qP76, qP65, qP66, (.sB, y52, (.app 904 rtPr_4)), qP77, qP50, qP78, qP51, qP84, (.sI, y10, (.app 900 rtPr_9)), (.sI, y11, (.app 901 rtPr_9)), qP46, qP32, qP47, (.sB, y15, (.app 902 rtPr_9)), qP27, (.sB, y17, (.app 903 rtPr_9)), qP28, qP29, qP30, qP67, qP68, qP69, qP79, qP70, qP71, (.sB, y28, (.app
 904 rtPr_9))])))))))))) .fail))))) .fail) .fail) .fail) (.fork (.app 771 rtPr_10) (.fork qP13 (.fork qP7 qP0 (.fork qP9 qP0 (.fork qP18 qP0 (.fork qP5 qP0 (.fork qP12 (.fork qP8 qP0 (.fork qP10 qP0 (.fork qP16 qP0 (.fork qP6 qP0 (.fork y57 qP0 (.fork qP14 qP0 (.fork qP15 qP0 (.leaf (.normal, (some [qP4, qP33, qP34, qP48, qP41, qP20, qP35, qP36, qP37, qP38, qP59, qP60, qP61, qP62, qP42, qP21, qP43,
 qP22, qP63, qP52, (.sI, y35, (.app 768 rtPr_10)), qP44, (.sB, y37, (.app 769 rtPr_10)), qP45, qP53, qP23, qP54, qP24, qP25, qP26, qP72, qP73, qP64, (.sB, y49, (.app 770 rtPr_10)), qP65, qP66, qP80, qP77, qP50, qP78, qP51, qP84, qP55, qP87, qP46, qP32, qP47, qP56, qP27, qP57, qP28, qP29, qP30, qP67, qP68, qP69, qP79, qP70, qP71, qP81])))))))))) .fail))))) .fail) .fail))))))))) (.fork (.ib .eql .u8 qP11
 (.ci 0)) (.fork (.app 581 rtPr_12) (.fork (.ib .eql .i64 (.app 576 rtPr_12) (.ci 0)) (.fork qP13 (.fork (.ib .gtr .i64 y55 (.ib .add .i64 y53 qP93)) qP0 (.fork (.ib .gtr .i64 qP49 (.ci 7)) qP0 (.fork (.ib .gtr .i64 y9 qP49) qP0 (.fork rtPr_13 qP0 (.fork qP12 (.fork qP8 qP0 (.fork qP10 qP0 (.fork qP16 qP0 (.fork qP6 qP0 (.fork y57 qP0 (.fork (.ib .gtr .i64 qP49 y1) qP0 (.fork qP15 qP0 (.leaf (.normal,
 (some [qP4, qP33, qP34, qP48, (.sL, y23, (.app 580 rtPr_12)), qP20, qP35, qP36, (.sI, y53, (.ib .add .i64 y53 qP93)), qP38, qP59, qP60, qP61, qP62, qP42, qP21, qP43, qP22, qP63, qP52, qP88, qP44, qP31, qP45, qP53, qP23, qP54, qP24, qP25, qP26, qP72, qP73, qP64, qP76, qP65, qP66, qP80, qP77, qP50, qP78, qP51, qP84, qP55, (.sI, y11, (.app 577 rtPr_12)), qP46, qP32, qP47, qP56, qP27, qP57, qP28, qP29,
 qP30, (.sI, y21, (.app 578 rtPr_12)), (.sI, y22, qP49), qP69, qP79, qP70, qP71, qP81])))))))))) .fail))))) .fail) (.fork qP13 (.fork qP7 qP0 (.fork (.ib .gtr .i64 qP49 (.ci 7)) qP0 (.fork (.ib .gtr .i64 y9 qP49) qP0 (.fork (.ib .lss .i64 y55 (.ib .sub .i64 y53 qP49)) qP0 (.fork qP12 (.fork qP8 qP0 (.fork qP10 qP0 (.fork qP16 qP0 (.fork qP6 qP0 (.fork y57 qP0 (.fork (.ib .gtr .i64 qP49 y1) qP0 (.fork
 qP15 qP0 (.leaf (.normal, (some [qP4, qP33, qP34, qP48, (.sL, y23, (.app 580 rtPr_12)), qP20, qP35, qP36, qP37, qP38, qP59, qP60, qP61, qP62, qP42, qP21, qP43, qP22, qP63, qP52, qP88, qP44, qP31, qP45, qP53, qP23, qP54, qP24, qP25, qP26, qP72, qP73, qP64, qP76, qP65, qP66, qP80, qP77, qP50, qP78, qP51, qP84, qP55, (.sI, y11, (.app 577 rtPr_12)), qP46, qP32, qP47, qP56, qP27, qP57, qP28, qP29, qP30,
 (.sI, y21, (.app 578 rtPr_12)), (.sI, y22, qP49), qP69, qP79, qP70, qP71, qP81])))))))))) .fail))))) .fail)) .fail) (.fork (.ib .eql .u8 qP11 qP93) (.fork (.app 581 rtPr_12) (.fork (.ib .eql .i64 (.app 576 rtPr_12) (.ci 0)) (.fork qP13 (.fork (.ib .gtr .i64 y55 (.ib .add .i64 y53 qP93)) qP0 (.fork (.ib .gtr .i64 qP49 (.ci 7)) qP0 (.fork (.ib .gtr .i64 y9 qP49) qP0 (.fork rtPr_13 qP0 (.fork qP12 (.fork
 qP8 qP0 (.fork qP10 qP0 (.fork qP16 qP0 (.fork qP6 qP0 (.fork y57 qP0 (.fork (.ib .gtr .i64 qP49 y1) qP0 (.fork qP15 qP0 (.leaf (.normal, (some [qP4, qP33, qP34, qP48, (.sL, y23, (.app 580 rtPr_12)), qP20, qP35, qP36, (.sI, y53, (.ib .add .i64 y53 qP93)), qP38, qP59, qP60, qP61, qP62, qP42, qP21, qP43, qP22, qP63, qP52, qP88, qP44, qP31, qP45, qP53, qP23, qP54, qP24, qP25, qP26, qP72, qP73, qP64, qP76,
 qP65, qP66, qP80, qP77, qP50, qP78, qP51, qP84, qP55, (.sI, y11, (.app 577 rtPr_12)), qP46, qP32, qP47, qP56, qP27, qP57, qP28, qP29, qP30, (.sI, y21, (.app 578 rtPr_12)), (.sI, y22, qP49), qP69, qP79, qP70, qP71, qP81])))))))))) .fail))))) .fail) (.fork qP13 (.fork qP7 qP0 (.fork (.ib .gtr .i64 qP49 (.ci 7)) qP0 (.fork (.ib .gtr .i64 y9 qP49) qP0 (.fork (.ib .lss .i64 y55 (.ib .sub .i64 y53 qP49))
 qP0 (.fork qP12 (.fork qP8 qP0 (.fork qP10 qP0 (.fork qP16 qP0 (.fork qP6 qP0 (.fork y57 qP0 (.fork (.ib .gtr .i64 qP49 y1) qP0 (.fork qP15 qP0 (.leaf (.normal, (some [qP4, qP33, qP34, qP48, (.sL, y23, (.app 580 rtPr_12)), qP20, qP35, qP36, qP37, qP38, qP59, qP60, qP61, qP62, qP42, qP21, qP43, qP22, qP63, qP52, qP88, qP44, qP31, qP45, qP53, qP23, qP54, qP24, qP25, qP26, qP72, qP73, qP64, qP76, qP65,
 qP66, qP80, qP77, qP50, qP78, qP51, qP84, qP55, (.sI, y11, (.app 577 rtPr_12)), qP46, qP32, qP47, qP56, qP27, qP57, qP28, qP29, qP30, (.sI, y21, (.app 578 rtPr_12)), (.sI, y22, qP49), qP69, qP79, qP70, qP71, qP81])))))))))) .fail))))) .fail)) .fail) (.fork (.ib .eql .u8 qP11 (.ci 2)) (.fork (.app 655 rtPr_9) (.fork (.app 647 rtPr_9) (.fork (.ib .lss .i64 y59 (.ci 4294967295)) (.fork (.app 129 (tp [y5,
 qP86])) (.fork qP7 qP0 (.fork qP9 qP0 (.fork (.ib .gtr .i64 qP86 y22) qP0 (.fork qP5 qP0 (.fork qP12 (.fork qP8 qP0 (.fork qP10 qP0 (.fork qP16 qP0 (.fork qP6 qP0 (.fork y57 qP0 (.fork qP14 qP0 (.fork qP15 qP0 (.leaf (.normal, (some [qP4, qP33, (.sL, y60, qP91), qP48, qP41, qP20, qP35, qP36, qP37, qP38, (.sI, y58, (.ci 0)), (.sI, y59, (.llen qP91)), qP61, qP62, qP42, qP21, qP43, qP22, qP63, qP52, qP88,
 qP44, qP31, qP45, qP53, qP23, qP54, qP24, qP25, qP26, qP72, qP73, qP64, qP76, qP65, qP66, qP80, qP77, qP50, qP78, qP51, (.sI, y9, qP86), qP55, (.sI, y11, (.app 649 rtPr_9)), qP46, qP32, qP47, qP56, qP27, qP57, qP28, qP29, qP30, qP67, qP68, (.sI, y24, (.app 650 rtPr_9)), (.sB, y25, (.app 651 rtPr_9)), (.sB, y26, (.app 652 rtPr_9)), (.sB, y27, (.app 653 rtPr_9)), (.sB, y28, (.app 654 rtPr_9))]))))))))))
 .fail))))) .fail) .fail) (.fork (.app 129 (tp [y5, qP86])) (.fork qP7 qP0 (.fork qP9 qP0 (.fork (.ib .gtr .i64 qP86 y22) qP0 (.fork qP5 qP0 (.fork qP12 (.fork qP8 qP0 (.fork qP10 qP0 (.fork qP16 qP0 (.fork qP6 qP0 (.fork y57 qP0 (.fork qP14 qP0 (.fork qP15 qP0 (.leaf (.normal, (some [qP4, qP33, qP34, qP48, qP41, qP20, qP35, qP36, qP37, qP38, qP59, qP60, qP61, qP62, qP42, qP21, qP43, qP22, qP63, qP52,
 qP88, qP44, qP31, qP45, qP53, qP23, qP54, qP24, qP25, qP26, qP72, qP73, qP64, qP76, qP65, qP66, qP80, qP77, qP50, qP78, qP51, (.sI, y9, qP86), qP55, (.sI, y11, (.app 649 rtPr_9)), qP46, qP32, qP47, qP56, qP27, qP57, qP28, qP29, qP30, qP67, qP68, (.sI, y24, (.app 650 rtPr_9)), (.sB, y25, (.app 651 rtPr_9)), (.sB, y26, (.app 652 rtPr_9)), (.sB, y27, (.app 653 rtPr_9)), (.sB, y28, (.app 654 rtPr_9))]))))))))))
 .fail))))) .fail)) .fail) (.fork (.ib .eql .u8 qP11 (.ci 3)) (.fork (.app 655 rtPr_9) (.fork (.app 647 rtPr_9) (.fork (.ib .lss .i64 y59 (.ci 4294967295)) (.fork (.app 129 (tp [y5, qP86])) (.fork qP7 qP0 (.fork qP9 qP0 (.fork (.ib .gtr .i64 qP86 y22) qP0 (.fork qP5 qP0 (.fork qP12 (.fork qP8 qP0 (.fork qP10 qP0 (.fork qP16 qP0 (.fork qP6 qP0 (.fork y57 qP0 (.fork qP14 qP0 (.fork qP15 qP0 (.leaf (.normal,
 (some [qP4, qP33, (.sL, y60, qP91), qP48, qP41, qP20, qP35, qP36, qP37, qP38, (.sI, y58, (.ci 0)), (.sI, y59, (.llen qP91)), qP61, qP62, qP42, qP21, qP43, qP22, qP63, qP52, qP88, qP44, qP31, qP45, qP53, qP23, qP54, qP24, qP25, qP26, qP72, qP73, qP64, qP76, qP65, qP66, qP80, qP77, qP50, qP78, qP51, (.sI, y9, qP86), qP55, (.sI, y11, (.app 649 rtPr_9)), qP46, qP32, qP47, qP56, qP27, qP57, qP28, qP29,
 qP30, qP67, qP68, (.sI, y24, (.app 650 rtPr_9)), (.sB, y25, (.app 651 rtPr_9)), (.sB, y26, (.app 652 rtPr_9)), (.sB, y27, (.app 653 rtPr_9)), (.sB, y28, (.app 654 rtPr_9))])))))))))) .fail))))) .fail) .fail) (.fork (.app 129 (tp [y5, qP86])) (.fork qP7 qP0 (.fork qP9 qP0 (.fork (.ib .gtr .i64 qP86 y22) qP0 (.fork qP5 qP0 (.fork qP12 (.fork qP8 qP0 (.fork qP10 qP0 (.fork qP16 qP0 (.fork qP6 qP0 (.fork
 y57 qP0 (.fork qP14 qP0 (.fork qP15 qP0 (.leaf (.normal, (some [qP4, qP33, qP34, qP48, qP41, qP20, qP35, qP36, qP37, qP38, qP59, qP60, qP61, qP62, qP42, qP21, qP43, qP22, qP63, qP52, qP88, qP44, qP31, qP45, qP53, qP23, qP54, qP24, qP25, qP26, qP72, qP73, qP64, qP76, qP65, qP66, qP80, qP77, qP50, qP78, qP51, (.sI, y9, qP86), qP55, (.sI, y11, (.app 649 rtPr_9)), qP46, qP32, qP47, qP56, qP27, qP57, qP28,
 qP29, qP30, qP67, qP68, (.sI, y24, (.app 650 rtPr_9)), (.sB, y25, (.app 651 rtPr_9)), (.sB, y26, (.app 652 rtPr_9)), (.sB, y27, (.app 653 rtPr_9)), (.sB, y28, (.app 654 rtPr_9))])))))))))) .fail))))) .fail)) .fail) (.fork (.ib .eql .u8 qP11 (.ci 4)) (.fork (.ib .eql .i64 y59 (.ci 0)) qP1 (.fork (.ib .lss .i64 (.ci 0) y59) (.fork (.ib .leq .i64 qP93 y59) (.fork (.app 724 rtPr_15) (.fork (.app 707 rtPr_15)
 (.fork (.app 705 rtPr_15) (.fork qP94 qP2 qP2) (.fork qP13 (.fork qP7 qP0 (.fork qP9 qP0 (.fork qP18 qP0 (.fork qP5 qP0 (.fork qP39 (.fork qP8 qP0 (.fork qP90 qP0 (.fork qP82 qP0 (.fork qP75 qP0 qP0)))) .fail))))) .fail)) (.fork (.app 705 rtPr_15) (.fork qP94 qP2 (.fork qP13 (.fork (.ib .gtr .i64 (.ib .add .i64 y55 qP93) y53) qP0 (.fork qP9 qP0 (.fork qP18 qP0 (.fork rtPr_17 qP0 (.fork qP39 (.fork
 qP8 qP0 (.fork qP90 qP0 (.fork qP82 qP0 (.fork qP75 qP0 (.fork y57 qP0 (.fork qP14 qP0 (.fork (.ib .gtr .i64 qP17 y1) qP0 (.leaf (.normal, (some [qP4, qP33, qP34, qP48, qP41, qP20, (.sI, y55, (.ib .add .i64 y55 qP93)), qP36, qP37, qP38, (.sI, y58, (.plus y58 qP93)), qP97, qP61, qP62, (.sI, y29, (.app 708 rtPr_15)), qP21, (.sI, y31, (.app 709 rtPr_15)), qP22, (.sI, y33, (.app 710 rtPr_15)), (.sI, y34,
 (.app 711 rtPr_15)), (.sI, y35, (.app 712 rtPr_15)), (.sB, y36, (.app 713 rtPr_15)), qP31, (.sB, y38, (.app 714 rtPr_15)), (.sB, y39, (.app 715 rtPr_15)), qP23, (.sB, y41, (.app 716 rtPr_15)), qP24, qP25, qP26, (.sI, y45, (.app 717 rtPr_15)), (.sI, y46, qP17), (.sI, y48, (.app 719 rtPr_15)), (.sB, y49, (.app 720 rtPr_15)), (.sB, y50, (.app 721 rtPr_15)), (.sB, y51, (.app 722 rtPr_15)), (.sB, y52, (.app
 723 rtPr_15)), qP77, qP50, qP78, qP51, qP84, qP55, qP87, qP46, qP32, qP47, qP56, qP27, qP57, qP28, qP29, qP30, qP67, qP68, qP69, qP79, qP70, qP71, qP81])))))))))) .fail))))) .fail)) (.fork qP13 (.fork qP7 qP0 (.fork qP9 qP0 (.fork qP18 qP0 (.fork qP5 qP0 (.fork qP39 (.fork qP8 qP0 (.fork qP90 qP0 (.fork qP82 qP0 (.fork qP75 qP0 (.fork y57 qP0 (.fork qP14 qP0 (.fork (.ib .gtr .i64 qP17 y1) qP0 (.leaf
 (.normal, (some [qP4, qP33, qP34, qP48, qP41, qP20, qP35, qP36, qP37, qP38, (.sI, y58, (.plus y58 qP93)), qP97, qP61, qP62, (.sI, y29, (.app 708 rtPr_15)), qP21, (.sI, y31, (.app 709 rtPr_15)), qP22, (.sI, y33, (.app 710 rtPr_15)), (.sI, y34, (.app 711 rtPr_15)), (.sI, y35, (.app 712 rtPr_15)), (.sB, y36, (.app 713 rtPr_15)), qP31, (.sB, y38, (.app 714 rtPr_15)), (.sB, y39, (.app 715 rtPr_15)), qP23,
 (.sB, y41, (.app 716 rtPr_15)), qP24, qP25, qP26, (.sI, y45, (.app 717 rtPr_15)), (.sI, y46, qP17), (.sI, y48, (.app 719 rtPr_15)), (.sB, y49, (.app 720 rtPr_15)), (.sB, y50, (.app 721 rtPr_15)), (.sB, y51, (.app 722 rtPr_15)), (.sB, y52, (.app 723 rtPr_15)), qP77, qP50, qP78, qP51, qP84, qP55, qP87, qP46, qP32, qP47, qP56, qP27, qP57, qP28, qP29, qP30, qP67, qP68, qP69, qP79, qP70, qP71, qP81]))))))))))
 .fail))))) .fail))) .fail) .fail) .fail)) (.fork (.ib .eql .u8 qP11 (.ci 5)) (.fork (.ib .eql .i64 y59 (.ci 0)) qP1 (.fork (.ib .lss .i64 (.ci 0) y59) (.fork (.ib .leq .i64 qP93 y59) (.fork (.app 724 rtPr_15) (.fork (.app 707 rtPr_15) (.fork (.app 705 rtPr_15) (.fork qP94 qP2 qP2) (.fork qP13 (.fork qP7 qP0 (.fork qP9 qP0 (.fork qP18 qP0 (.fork qP5 qP0 (.fork qP39 (.fork qP8 qP0 (.fork qP90 qP0 (.fork
 qP82 qP0 (.fork qP75 qP0 qP0)))) .fail))))) .fail)) (.fork (.app 705 rtPr_15) (.fork qP94 qP2 (.fork qP13 (.fork (.ib .gtr .i64 (.ib .add .i64 y55 qP93) y53) qP0 (.fork qP9 qP0 (.fork qP18 qP0 (.fork rtPr_17 qP0 (.fork qP39 (.fork qP8 qP0 (.fork qP90 qP0 (.fork qP82 qP0 (.fork qP75 qP0 (.fork y57 qP0 (.fork qP14 qP0 (.fork (.ib .gtr .i64 qP17 y1) qP0 (.leaf (.normal, (some [qP4, qP33, qP34, qP48, qP41,
 qP20, (.sI, y55, (.ib .add .i64 y55 qP93)), qP36, qP37, qP38, (.sI, y58, (.plus y58 qP93)), qP97, qP61, qP62, (.sI, y29, (.app 708 rtPr_15)), qP21, (.sI, y31, (.app 709 rtPr_15)), qP22, (.sI, y33, (.app 710 rtPr_15)), (.sI, y34, (.app 711 rtPr_15)), (.sI, y35, (.app 712 rtPr_15)), (.sB, y36, (.app 713 rtPr_15)), qP31, (.sB, y38, (.app 714 rtPr_15)), (.sB, y39, (.app 715 rtPr_15)), qP23, (.sB, y41,
 (.app 716 rtPr_15)), qP24, qP25, qP26, (.sI, y45, (.app 717 rtPr_15)), (.sI, y46, qP17), (.sI, y48, (.app 719 rtPr_15)), (.sB, y49, (.app 720 rtPr_15)), (.sB, y50, (.app 721 rtPr_15)), (.sB, y51, (.app 722 rtPr_15)), (.sB, y52, (.app 723 rtPr_15)), qP77, qP50, qP78, qP51, qP84, qP55, qP87, qP46, qP32, qP47, qP56, qP27, qP57, qP28, qP29, qP30, qP67, qP68, qP69, qP79, qP70, qP71, qP81])))))))))) .fail)))))
 .fail)) (.fork qP13 (.fork qP7 qP0 (.fork qP9 qP0 (.fork qP18 qP0 (.fork qP5 qP0 (.fork qP39 (.fork qP8 qP0 (.fork qP90 qP0 (.fork qP82 qP0 (.fork qP75 qP0 (.fork y57 qP0 (.fork qP14 qP0 (.fork (.ib .gtr .i64 qP17 y1) qP0 (.leaf (.normal, (some [qP4, qP33, qP34, qP48, qP41, qP20, qP35, qP36, qP37, qP38, (.sI, y58, (.plus y58 qP93)), qP97, qP61, qP62, (.sI, y29, (.app 708 rtPr_15)), qP21, (.sI, y31,
 (.app 709 rtPr_15)), qP22, (.sI, y33, (.app 710 rtPr_15)), (.sI, y34, (.app 711 rtPr_15)), (.sI, y35, (.app 712 rtPr_15)), (.sB, y36, (.app 713 rtPr_15)), qP31, (.sB, y38, (.app 714 rtPr_15)), (.sB, y39, (.app 715 rtPr_15)), qP23, (.sB, y41, (.app 716 rtPr_15)), qP24, qP25, qP26, (.sI, y45, (.app 717 rtPr_15)), (.sI, y46, qP17), (.sI, y48, (.app 719 rtPr_15)), (.sB, y49, (.app 720 rtPr_15)), (.sB,
 y50, (.app 721 rtPr_15)), (.sB, y51, (.app 722 rtPr_15)), (.sB, y52, (.app 723 rtPr_15)), qP77, qP50, qP78, qP51, qP84, qP55, qP87, qP46, qP32, qP47, qP56, qP27, qP57, qP28, qP29, qP30, qP67, qP68, qP69, qP79, qP70, qP71, qP81])))))))))) .fail))))) .fail))) .fail) .fail) .fail)) (.fork (.ib .eql .u8 qP11 (.ci 6)) (.fork (.ib .eql .i64 y59 (.ci 0)) qP1 (.fork (.ib .lss .i64 (.ci 0) y59) (.fork (.ib
 .leq .i64 qP93 y59) (.fork qP13 (.fork qP7 qP0 (.fork qP9 qP0 (.fork qP18 qP0 (.fork qP5 qP0 (.fork qP12 (.fork qP8 qP0 (.fork qP10 qP0 (.fork qP16 qP0 (.fork qP6 qP0 (.fork y57 qP0 (.fork qP14 qP0 (.fork qP15 qP0 (.leaf (.normal, (some [qP4, qP33, qP34, qP48, qP41, qP20, qP35, qP36, qP37, qP38, (.sI, y58, (.plus y58 qP93)), qP97, qP61, qP62, qP42, qP21, qP43, qP22, qP63, qP52, qP88, qP44, qP31, qP45,
 qP53, qP23, qP54, qP24, qP25, qP26, qP72, qP73, qP64, qP76, qP65, qP66, qP80, qP77, qP50, qP78, qP51, qP84, qP55, qP87, qP46, qP32, qP47, qP56, qP27, qP57, qP28, qP29, qP30, qP67, qP68, qP69, qP79, qP70, qP71, qP81])))))))))) .fail))))) .fail) .fail) .fail)) (.fork (.ib .eql .u8 qP11 (.ci 7)) (.fork (.app 905 rtPr_9) (.fork (.app 905 rtPr_4) (.fork qP13 (.fork qP7 qP0 (.fork qP9 qP0 (.fork qP18 qP0
 (.fork qP5 qP0 (.fork qP12 (.fork qP8 qP0 (.fork qP10 qP0 (.fork qP16 qP0 (.fork qP6 qP0 (.fork y57 qP0 (.fork qP14 qP0 (.fork qP15 qP0 (.leaf (.normal, (some [qP4, qP33, qP34, qP48, qP41, qP20, qP35, qP36, qP37, qP38, qP59, qP60, qP61, qP62, qP42, qP21, qP43, qP22, qP63, (.sI, y34, (.app 900 rtPr_4)), (.sI, y35, (.app 901 rtPr_4)), qP44, qP31, qP45, (.sB, y39, (.app 902 rtPr_4)), qP23, (.sB, y41,
 (.app 903 rtPr_4)), qP24, qP25, qP26, qP72, qP73, qP64, qP76, qP65, qP66, (.sB, y52, (.app 904 rtPr_4)), qP77, qP50, qP78, qP51, qP84, (.sI, y10, (.app 900 rtPr_9)), (.sI, y11, (.app 901 rtPr_9)), qP46, qP32, qP47, (.sB, y15, (.app 902 rtPr_9)), qP27, (.sB, y17, (.app 903 rtPr_9)), qP28, qP29, qP30, qP67, qP68, qP69, qP79, qP70, qP71, (.sB, y28, (.app 904 rtPr_9))])))))))))) .fail))))) .fail) .fail)
 .fail) (.fork (.app 771 rtPr_18) (.fork qP13 (.fork qP7 qP0 (.fork qP9 qP0 (.fork qP18 qP0 (.fork qP5 qP0 (.fork qP12 (.fork qP8 qP0 (.fork qP10 qP0 (.fork qP16 qP0 (.fork qP6 qP0 (.fork y57 qP0 (.fork qP14 qP0 (.fork qP15 qP0 (.leaf (.normal, (some [qP4, qP33, qP34, qP48, qP41, qP20, qP35, qP36, qP37, qP38, qP59, qP60, qP61, qP62, qP42, qP21, qP43, qP22, qP63, qP52, qP88, qP44, qP31, qP45, qP53, qP23,
 qP54, qP24, qP25, qP26, qP72, qP73, qP64, qP76, qP65, qP66, qP80, qP77, qP50, qP78, qP51, qP84, qP55, (.sI, y11, (.app 768 rtPr_18)), qP46, (.sB, y13, (.app 769 rtPr_18)), qP47, qP56, qP27, qP57, qP28, qP29, qP30, qP67, qP68, qP69, (.sB, y25, (.app 770 rtPr_18)), qP70, qP71, qP81])))))))))) .fail))))) .fail) .fail)))))))))) .fail) (.leaf ((.exit 0), (some []))))
set_option maxRecDepth 100000 in
theorem rtPr_eq : evCode Try.prog (evFun Try.prog envV 1000) (fun _ => none) 1000000 (lpBody Try.prog fPr 0) TPr (outN 8 4 TPr FPr) = rtPr := by kernel_rfl
set_option maxRecDepth 100000 in
theorem lawPr_all : Tree.allT (lawPr gPr) = true := by kernel_rfl
set_option maxRecDepth 100000 in
theorem nilPr_all : Tree.allT (evFun Try.prog envV 1000 fPr [iv 1, iv 2, iv 3, .nilSlice] heap0 fun v _ => .leaf v) = true := by kernel_rfl
abbrev lawDt : Tree AV :=
 .fork (.ib .gtr .i64 (.llen y0) (.ci 300)) (.leaf (.bool true)) (.fork (.ib .geq .i64 y1 qP93) (.fork (.ib .leq .i64 y1 (.ci 7)) (.fork (.ib .geq .i64 y2 (.ci 0)) (.fork (.ib .leq .i64 y2 (.ci 255)) (.fork (.ib .geq .i64 y3 qP93) (.fork (.ib .gtr .i64 y3 (.ci 255)) (.leaf (.bool true)) .fail) (.leaf (.bool true))) (.leaf (.bool true))) (.leaf (.bool true))) (.leaf (.bool true))) (.leaf (.bool true)))
set_option maxRecDepth 100000 in
theorem lawPr_dead : lawPr dead = lawDt := by kernel_rfl
end
end Go.Proofs.Ytlbkficdelepeaa.Ab
