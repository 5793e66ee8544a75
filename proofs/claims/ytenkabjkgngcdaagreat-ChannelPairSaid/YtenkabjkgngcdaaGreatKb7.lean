import Derived.Test.YtenkabjkgngcdaaGreatKb5
import Derived.Test.YtenkabjkgngcdaaGreatKb6
set_option linter.unusedVariables false
set_option linter.unusedSimpArgs false
set_option linter.unusedSectionVars false
namespace Go.Proofs.YtenkabjkgngcdaaGreat.Ab
open Go
noncomputable section
abbrev zVS : Tm := (.wrap .i64 (.wrap .u8 (.ib .and .i64 (.wrap .i64 y0) (.ci 7))))
abbrev xEW : Tm :=
 (.ib .add .i64 zVS (.ib .and .i64 y1 (.ci 7)))
def xIL : (Tree (Option Eqs)) :=
 (.leaf (some [(.sI, y2, (.wrap .u8 (.ib .and .i64 xEW (.ci 7))))]))
set_option maxRecDepth 100000 in
theorem zTU : SAdd.tree Tryz.prog none0 68 = xIL := by kernel_rfl
abbrev xEV : Tm :=
 (.ib .sub .i64 (.wrap .i64 (.wrap .u8 (.ib .and .i64 (.wrap .i64 y1) (.ci 7)))) zVS)
def xIK : (Tree (Option Eqs)) :=
 (.leaf (some [(.sI, y2, (.wrap .i64 (.wrap .u8 (.ib .and .i64 xEV (.ci 7)))))]))
set_option maxRecDepth 100000 in
theorem zTP : SWay.tree Tryz.prog none0 144 = xIK := by kernel_rfl
abbrev xCf : Tm :=
 (.ib .gtr .i64 (.app 192 (tp [y0, y2])) (.app 192 (tp [y0, y1])))
abbrev zDl : Tm :=
 (.ci 0)
abbrev zLZ : Tm := (.cb false)
abbrev zC6 : Tm :=
 zLZ
abbrev zFF : Tm :=
 (.cb true)
def xCg : (Tree (Option Eqs)) :=
 (.fork (.app 193 (tp [y0, y2])) (.fork (.app 193 (tp [y0, y1])) (.fork xCf (.leaf (some [(.sI, y3, zDl), (.sB, y4, zC6)])) (.leaf (some [(.sI, y3, (.app 192 (tp [y0, y2]))), (.sB, y4, zFF)]))) .fail) .fail)
set_option maxRecDepth 100000 in
theorem zQ3 : SAcks.tree Tryz.prog xH4 125 = xCg := by kernel_rfl
abbrev xHv : Tree (Option Eqs) :=
 (.fork (.ib .eql .i64 y6 (.ci 0)) (.leaf (some [(.sI, y25, y15)])) (.fork y24 (.leaf (some [(.sI, y25, y15)])) (.leaf (some [(.sI, y25, y6)]))))
def zTT : (Tree (Option Eqs)) :=
 (.fork y12 (.leaf (some [(.sI, y25, y6)])) (.fork (.ib .eql .i64 y4 zDl) (.fork (.not y10) (.fork (.not y11) (.fork y7 (.fork (.ib .leq .i64 y17 zDl) (.leaf (some [(.sI, y25, zDl)])) xHv) (.leaf (some [(.sI, y25, zDl)]))) xHv) xHv) xHv))
set_option maxRecDepth 100000 in
theorem zMJ : SCount.tree Tryz.prog none0 77 = zTT := by kernel_rfl
abbrev zL8 : Tm :=
 (.and (.ib .leq .i64 zDl y24) (.ib .leq .i64 y24 y17))
abbrev zIm : Tm :=
 (.ite (.ib .gtr .i64 (.ib .sub .i64 y4 y24) zDl) (.ib .sub .i64 y4 y24) zDl)
def zTV : (Tree (Option Eqs)) :=
 (.fork zL8 (.fork (.app 129 (tp [y0, y24])) (.fork (.ib .gtr .i64 y24 zDl) (.leaf (some [(.sI, y25, (.app 128 (tp [y0, y24]))), (.sI, y26, zIm), (.sI, y27, zDl), (.sI, y28, (.plus y16 y24)), (.sI, y29, (.minus y17 y24)), (.sI, y30, (.ib .sub .i64 y19 y24))])) (.leaf (some [(.sI, y25, (.app 128 (tp [y0, y24]))), (.sI, y26, zIm), (.sI, y27, y5), (.sI, y28, (.plus y16 y24)), (.sI, y29, (.minus y17 y24)), (.sI, y30, (.ib .sub .i64 y19 y24))]))) .fail) .fail)
set_option maxRecDepth 100000 in
theorem zMK : SAcked.tree Tryz.prog xH4 126 = zTV := by kernel_rfl
abbrev zVW : Sr × Tm × Tm :=
 (.sB, y34, zC6)
abbrev zHi : Sr × Tm × Tm := (.sS, y31, (.cs []))
abbrev zVX : Sr × Tm × Tm :=
 zHi
abbrev zVV : Sr × Tm × Tm :=
 (.sB, y32, zC6)
abbrev zVT : Tree (Option Eqs) := (.leaf (some [zVX, zVV, (.sI, y33, zDl), zVW, (.sI, y35, y2), (.sB, y36, y9), (.sB, y38, y20), (.sB, y37, y22)]))
def xBT : (Tree (Option Eqs)) :=
 (.fork (.app 193 (tp [y2, y28])) (.fork (.ib .eql .i64 (.app 192 (tp [y2, y28])) zDl) (.fork (.not y8) (.fork (.app 129 (tp [y2, (.ci 1)])) (.leaf (some [(.sS, y31, y30), (.sB, y32, zFF), (.sI, y33, zDl), zVW, (.sI, y35, (.app 128 (tp [y2, (.ci 1)]))), (.sB, y36, zC6), (.sB, y38, zFF), (.sB, y37, zC6)])) .fail) (.leaf (some [zVX, zVV, (.sI, y33, zDl), zVW, (.sI, y35, y2), (.sB, y36, y9),
 (.sB, y38, zFF), (.sB, y37, y22)]))) (.fork (.not y9) (.fork (.not y8) (.leaf (some [zVX, zVV, (.sI, y33, zDl), zVW, (.sI, y35, y2), (.sB, y36, zFF), (.sB, y38, zFF), (.sB, y37, zFF)])) zVT) zVT)) .fail)
set_option maxRecDepth 100000 in
theorem zQu : STake.tree Tryz.prog xH4 127 = xBT := by kernel_rfl
abbrev zPq : Tree (Option Eqs) := (.leaf (some [(.sB, y24, zC6)]))
def xHD : (Tree (Option Eqs)) :=
 (.fork (.not y12) (.fork y20 (.leaf (some [(.sB, y24, zFF)])) (.fork y23 (.leaf (some [(.sB, y24, zFF)])) (.fork (.not y7) (.fork (.not y10) (.leaf (some [(.sB, y24, (.ib .lss .i64 y4 y17))])) zPq) zPq))) zPq)
set_option maxRecDepth 100000 in
theorem zL7 : SHas.tree Tryz.prog none0 61 = xHD := by kernel_rfl
abbrev zPr : Tm := (.lapp (.lcut y18 y16 y17) (.row (tp [y24])))
abbrev zTR : Tm :=
 (tp [y4, y6, y7, y10, y11, y12, y15, (.llen zPr), zC6])
def xBU : (Tree (Option Eqs)) :=
 (.fork y12 (.leaf (some [(.sI, y25, (.ci 4)), (.sI, y26, y6), (.sI, y27, y16), (.sI, y28, y17), (.sL, y29, y18)])) (.fork (.ib .geq .i64 y17 y13) (.leaf (some [(.sI, y25, (.ci 3)), (.sI, y26, y6), (.sI, y27, y16), (.sI, y28, y17), (.sL, y29, y18)])) (.fork (.ib .lss .i64 y17 (.ci 4294967295)) (.fork (.app 321 zTR) (.leaf (some [(.sI, y25, zDl), (.sI, y26, (.app 320 zTR)), (.sI, y27, zDl), (.sI, y28, (.llen zPr)), (.sL, y29, zPr)])) .fail) .fail)))
set_option maxRecDepth 100000 in
theorem zQv : SPush.tree Tryz.prog xE4 74 = xBU := by kernel_rfl
abbrev zVQ : Tm := (tp [y4, y7, y10, y12, y17, y20, y23])
abbrev xBW : Tm :=
 (.app 513 zVQ)
abbrev xBV : Tm :=
 (.app 512 zVQ)
abbrev xCN : Tm := (tp [y4, y6, y7, y10, y11, y12, y15, y17, zC6])
abbrev zOW : Tm :=
 xCN
abbrev xHt : Tm :=
 (.ib .add .i64 y4 (.ci 1))
abbrev zTS : Tm :=
 (tp [xHt, y6, y7, y10, y11, y12, y15, y17, zC6])
abbrev zOV : Tm :=
 (.ite (.ib .gtr .i64 xHt y19) xHt y19)
abbrev zYk : Sr × Tm × Tm :=
 (.sB, y25, zC6)
abbrev xCT : Sr × Tm × Tm :=
 (.sI, y26, zDl)
abbrev xAZ : Sr × Tm × Tm :=
 (.sB, y31, zFF)
abbrev xFA : Sr × Tm × Tm :=
 (.sI, y33, (.app 320 zOW))
abbrev zJn : Sr × Tm × Tm := (.sI, y24, zDl)
abbrev zJm : Sr × Tm × Tm := (.sI, y28, zDl)
abbrev zJw : Sr × Tm × Tm := (.sS, y30, (.cs []))
abbrev zJl : Sr × Tm × Tm := (.sI, y34, y19)
abbrev xAV : Tree (Option Eqs) := (.fork (.app 321 zOW) (.leaf (some [(.sI, y24, zDl), zYk, (.sI, y26, (.ci 9)), (.sB, y27, y21), (.sI, y28, zDl), (.sI, y29, y2), (.sS, y30, (.cs [])), xAZ, (.sI, y32, y4), xFA, (.sI, y34, y19), (.sB, y35, zC6), (.sB, y36, zC6), (.sB, y37, zC6), (.sB, y38, y23)])) .fail)
abbrev zLQ : Tm := (.app 321 zOW)
abbrev xAX : Tree (Option Eqs) := (.fork (.app 129 (tp [y0, y4])) (.fork (.and (.ib .leq .i64 zDl y4) (.ib .lss .i64 y4 y17)) (.fork (.app 321 zTS) (.leaf (some [(.sI, y24, zDl), (.sB, y25, zFF), (.sI, y26, (.ci 7)), (.sB, y27, zC6), (.sI, y28, (.app 128 (tp [y0, y4]))), (.sI, y29, y2), (.sS, y30, (.lget y18 (.plus y16 y4) 0)), xAZ, (.sI, y32, xHt), (.sI, y33, (.app 320 zTS)), (.sI, y34, zOV), (.sB, y35, y20), (.sB, y36, y21), (.sB, y37, y22), (.sB, y38, y23)])) .fail) .fail) .fail)
def xBX : (Tree (Option Eqs)) :=
 (.fork xBW (.fork (.not xBV) (.leaf (some [zJn, zYk, xCT, (.sB, y27, zC6), zJm, (.sI, y29, zDl), zJw, (.sB, y31, zC6), (.sI, y32, y4), (.sI, y33, y6), zJl, (.sB, y35, y20), (.sB, y36, y21), (.sB, y37, y22), (.sB, y38, y23)])) (.fork y8 (.fork y20 (.fork y22 xAV xAV) (.fork y23 (.fork zLQ (.leaf (some [zJn, (.sB, y25, zFF), (.sI, y26, (.ci 9)), (.sB, y27,
 zFF), zJm, (.sI, y29, y2), zJw, xAZ, (.sI, y32, y4), xFA, zJl, (.sB, y35, y20), (.sB, y36, y21), (.sB, y37, y22), (.sB, y38, zC6)])) .fail) xAX)) (.fork y20 (.fork y22 (.fork zLQ (.leaf (some [zJn, zYk, (.sI, y26, (.ci 10)), (.sB, y27, y21), zJm, (.sI, y29, y2), zJw, xAZ, (.sI, y32, y4), xFA, zJl, (.sB, y35, zC6), (.sB, y36, zC6), (.sB, y37, zC6), (.sB,
 y38, y23)])) .fail) (.fork zLQ (.leaf (some [zJn, zYk, (.sI, y26, (.ci 8)), (.sB, y27, y21), zJm, (.sI, y29, y2), zJw, xAZ, (.sI, y32, y4), xFA, zJl, (.sB, y35, zC6), (.sB, y36, zC6), (.sB, y37, zC6), (.sB, y38, y23)])) .fail)) (.fork y23 (.fork zLQ (.leaf (some [zJn, (.sB, y25, zFF), (.sI, y26, (.ci 8)), (.sB, y27, zFF), zJm, (.sI, y29, y2), zJw, xAZ, (.sI,
 y32, y4), xFA, zJl, (.sB, y35, y20), (.sB, y36, y21), (.sB, y37, y22), (.sB, y38, zC6)])) .fail) xAX)))) .fail)
set_option maxRecDepth 100000 in
theorem zQw : SNext.tree Tryz.prog xE4 52 = xBX := by kernel_rfl
abbrev zVR : Tm := (tp [y0, (.app 128 (tp [y0, y19])), y29])
abbrev xHu : Tm :=
 zVR
abbrev xCd : Tm :=
 (.not (.app 257 xHu))
abbrev zD7 : Tm :=
 (tp [y0, y4, y5, y16, y17, y19, (.app 256 xHu)])
abbrev xBb : Tm :=
 (tp [y2, y8, y9, y20, y22, y28, y30])
abbrev zB5 : Tm :=
 (.app 456 xBb)
abbrev zE3 : Tm :=
 (.ib .gtr .i64 (.app 256 xHu) zDl)
abbrev zHP : Tm := (.app 388 zD7)
abbrev zL6 : Tm :=
 (tp [zDl, y6, zC6, zC6, y11, y12, y15, zHP, zE3])
abbrev xCc : Tm :=
 (.app 448 xBb)
abbrev xCb : Tm :=
 (.app 449 xBb)
abbrev xCa : Tm :=
 (.app 451 xBb)
abbrev xBZ : Tm :=
 (.app 452 xBb)
abbrev xBY : Tm :=
 (.app 453 xBb)
abbrev zQ2 : Tm :=
 (.app 455 xBb)
abbrev zYy : Tm :=
 (.app 454 xBb)
abbrev zQ1 : Tm :=
 (tp [zDl, y6, zC6, y10, y11, y12, y15, zHP, zE3])
abbrev zQ0 : Tm :=
 (tp [(.app 385 zD7), y6, zC6, y10, y11, y12, y15, zHP, zE3])
abbrev zIl : Tm :=
 (tp [zDl, y6, zFF, zC6, y11, y12, y15, zHP, zE3])
abbrev zQz : Tm :=
 (tp [zDl, y6, zFF, y10, y11, y12, y15, zHP, zE3])
abbrev zIj : Tm :=
 (tp [zDl, y6, y7, zC6, y11, y12, y15, zHP, zE3])
abbrev zQy : Tm :=
 (tp [(.app 385 zD7), y6, y7, y10, y11, y12, y15, zHP, zE3])
abbrev zJu : Sr × Tm × Tm := (.sB, y32, zLZ)
abbrev zJt : Sr × Tm × Tm := (.sB, y34, zLZ)
abbrev zCG : Sr × Tm × Tm := (.sI, y36, y2)
abbrev zEF : Sr × Tm × Tm := (.sB, y40, y7)
abbrev zCF : Sr × Tm × Tm := (.sB, y41, y9)
abbrev zCm : Sr × Tm × Tm := (.sB, y42, y10)
abbrev zD8 : Sr × Tm × Tm := (.sB, y43, y12)
abbrev zEG : Sr × Tm × Tm := (.sB, y47, y20)
abbrev zBQ : Sr × Tm × Tm := (.sB, y48, y21)
abbrev zCH : Sr × Tm × Tm := (.sB, y49, y22)
abbrev zBo : Sr × Tm × Tm := (.sB, y50, y23)
abbrev qA9 : Tree (Option Eqs) :=
 (.leaf (some [zHi, zJu, (.sI, y33, (.ci 0)), zJt, (.sI, y35, y0), zCG, (.sI, y37, y4), (.sI, y38, y5), (.sI, y39, y6), zEF, zCF, zCm, zD8, (.sI, y44, y16), (.sI, y45, y17), (.sI, y46, y19), zEG, zBQ, zCH, zBo]))
abbrev zPs : Tm :=
 (.ib .eql .u8 y26 (.ci 7))
abbrev zJs : Sr × Tm × Tm := (.sS, y31, xCc)
abbrev xCS : Sr × Tm × Tm :=
 zJs
abbrev zJr : Sr × Tm × Tm := (.sB, y32, xCb)
abbrev xCR : Sr × Tm × Tm :=
 zJr
abbrev qA0 : Sr × Tm × Tm :=
 (.sI, y33, (.app 256 zVR))
abbrev zJq : Sr × Tm × Tm := (.sB, y34, xCa)
abbrev xCQ : Sr × Tm × Tm :=
 zJq
abbrev zGB : Sr × Tm × Tm := (.sI, y35, (.app 384 zD7))
abbrev zRp : Sr × Tm × Tm :=
 zGB
abbrev zJp : Sr × Tm × Tm := (.sI, y36, xBZ)
abbrev xCP : Sr × Tm × Tm :=
 zJp
abbrev zYj : Sr × Tm × Tm :=
 (.sI, y37, zDl)
abbrev zJo : Sr × Tm × Tm := (.sB, y41, xBY)
abbrev xCO : Sr × Tm × Tm :=
 zJo
abbrev zRl : Sr × Tm × Tm :=
 zD8
abbrev zGA : Sr × Tm × Tm := (.sI, y44, (.app 387 zD7))
abbrev zRo : Sr × Tm × Tm :=
 zGA
abbrev zEd : Sr × Tm × Tm := (.sI, y45, zHP)
abbrev zRn : Sr × Tm × Tm :=
 zEd
abbrev zG9 : Sr × Tm × Tm := (.sI, y46, (.app 389 zD7))
abbrev zRm : Sr × Tm × Tm :=
 zG9
abbrev zJv : Sr × Tm × Tm := (.sB, y49, zYy)
abbrev xCU : Sr × Tm × Tm :=
 zJv
abbrev zLU : Tm := (.app 321 zQ1)
abbrev zLP : Sr × Tm × Tm := (.sI, y37, (.ci 0))
abbrev zG8 : Sr × Tm × Tm := (.sI, y38, (.app 386 zD7))
abbrev zLY : Sr × Tm × Tm := (.sI, y39, (.app 320 zQ1))
abbrev zLO : Sr × Tm × Tm := (.sB, y40, zLZ)
abbrev zHh : Sr × Tm × Tm := (.sB, y47, zQ2)
abbrev qA3 : Tree (Option Eqs) :=
 (.fork zLU (.leaf (some [zJs, zJr, qA0, zJq, zGB, zJp, zLP, zG8, zLY, zLO, zJo, zCm, zD8, zGA, zEd, zG9, zHh, zBQ, zJv, zBo])) .fail)
abbrev qA7 : Tree (Option Eqs) :=
 (.fork zLU (.leaf (some [zHi, zJu, qA0, zJt, zGB, zCG, zLP, zG8, zLY, zLO, zCF, zCm, zD8, zGA, zEd, zG9, zEG, zBQ, zCH, zBo])) .fail)
abbrev xBa : Sr × Tm × Tm :=
 zG8
abbrev zLT : Tm := (.app 321 zQ0)
abbrev zEJ : Sr × Tm × Tm := (.sI, y37, (.app 385 zD7))
abbrev zLX : Sr × Tm × Tm := (.sI, y39, (.app 320 zQ0))
abbrev qA1 : Tree (Option Eqs) :=
 (.fork zLT (.leaf (some [zJs, zJr, qA0, zJq, zGB, zJp, zEJ, zG8, zLX, zLO, zJo, zCm, zD8, zGA, zEd, zG9, zHh, zBQ, zJv, zBo])) .fail)
abbrev qA4 : Tree (Option Eqs) :=
 (.fork zLT (.leaf (some [zHi, zJu, qA0, zJt, zGB, zCG, zEJ, zG8, zLX, zLO, zCF, zCm, zD8, zGA, zEd, zG9, zEG, zBQ, zCH, zBo])) .fail)
abbrev zLS : Tm := (.app 321 zQz)
abbrev zLW : Sr × Tm × Tm := (.sI, y39, (.app 320 zQz))
abbrev qA5 : Tree (Option Eqs) :=
 (.fork zLS (.leaf (some [zJs, zJr, qA0, zJq, zGB, zJp, zLP, zG8, zLW, (.sB, y40, (.cb true)), zJo, zCm, zD8, zGA, zEd, zG9, zHh, zBQ, zJv, zBo])) .fail)
abbrev qA8 : Tree (Option Eqs) :=
 (.fork zLS (.leaf (some [zHi, zJu, qA0, zJt, zGB, zCG, zLP, zG8, zLW, (.sB, y40, (.cb true)), zCF, zCm, zD8, zGA, zEd, zG9, zEG, zBQ, zCH, zBo])) .fail)
abbrev zLR : Tm := (.app 321 zQy)
abbrev zLV : Sr × Tm × Tm := (.sI, y39, (.app 320 zQy))
abbrev qA2 : Tree (Option Eqs) :=
 (.fork zLR (.leaf (some [zJs, zJr, qA0, zJq, zGB, zJp, zEJ, zG8, zLV, zEF, zJo, zCm, zD8, zGA, zEd, zG9, zHh, zBQ, zJv, zBo])) .fail)
abbrev qA6 : Tree (Option Eqs) :=
 (.fork zLR (.leaf (some [zHi, zJu, qA0, zJt, zGB, zCG, zEJ, zG8, zLV, zEF, zCF, zCm, zD8, zGA, zEd, zG9, zEG, zBQ, zCH, zBo])) .fail)
abbrev xAY : Tree (Option Eqs) := (.fork zPs (.fork zB5 (.fork (.app 321 zL6) (.leaf (some [xCS, xCR, qA0, xCQ, zRp, xCP, zYj, (.sI, y38, zDl), (.sI, y39, (.app 320 zL6)), (.sB, y40, zC6), xCO, (.sB, y42, zC6), zRl, zRo, zRn, zRm, (.sB, y47, zQ2), (.sB, y48, y21), xCU, (.sB, y50, zC6)])) .fail) .fail) (.fork (.app 321 zL6) (.leaf (some [zVX, zVV, qA0, zVW, zRp, (.sI, y36, y2), zYj, (.sI, y38, zDl), (.sI, y39, (.app 320 zL6)), (.sB, y40, zC6), (.sB, y41, y9), (.sB, y42, zC6), zRl, zRo, zRn, zRm, (.sB, y47, y20), (.sB, y48, y21), (.sB, y49, y22), (.sB, y50, zC6)])) .fail))
abbrev zEI : Sr × Tm × Tm := (.sB, y47, zFF)
abbrev zEH : Sr × Tm × Tm := (.sB, y48, zFF)
def xCe : (Tree (Option Eqs)) :=
 (.fork y12 qA9 (.fork (.ib .lss .u8 y26 (.ci 7)) qA9 (.fork (.ib .gtr .u8 y26 (.ci 10)) qA9 (.fork (.app 129 (tp [y0, y19])) (.fork (.app 258 xHu) (.fork xCd (.leaf (some [zVX, zVV, (.sI, y33, zDl), (.sB, y34, zFF), (.sI, y35, y0), zCG, (.sI, y37, y4), (.sI, y38, y5), (.sI, y39, zDl), zEF, zCF, zCm, (.sB, y43, zFF), (.sI, y44, y16), (.sI, y45, y17), (.sI, y46, y19), zEG,
 zBQ, zCH, zBo])) (.fork (.app 390 zD7) (.fork (.ib .eql .u8 y26 (.ci 10)) (.fork (.not y25) (.fork y27 (.fork y10 xAY (.fork zPs (.fork zB5 qA3 .fail) qA7)) (.fork zPs (.fork zB5 qA3 .fail) qA7)) (.fork zPs (.fork zB5 (.fork y27 (.fork zLU (.leaf (some [xCS, xCR, qA0, xCQ, zRp, xCP, zYj, xBa, zLY, (.sB, y40, zC6), xCO, zCm, zRl, zRo, zRn, zRm,
 zEI, zEH, xCU, zBo])) .fail) qA3) .fail) (.fork y27 (.fork zLU (.leaf (some [zVX, zVV, qA0, zVW, zRp, zCG, zYj, xBa, zLY, (.sB, y40, zC6), zCF, zCm, zRl, zRo, zRn, zRm, zEI, zEH, zCH, zBo])) .fail) qA7))) (.fork (.ib .eql .u8 y26 (.ci 8)) (.fork (.not y25) (.fork y27 (.fork y10 xAY (.fork zPs (.fork zB5 qA1 .fail) qA4)) (.fork zPs
 (.fork zB5 qA1 .fail) qA4)) (.fork zPs (.fork zB5 (.fork y27 (.fork zLT (.leaf (some [xCS, xCR, qA0, xCQ, zRp, xCP, zEJ, xBa, zLX, (.sB, y40, zC6), xCO, zCm, zRl, zRo, zRn, zRm, zEI, zEH, xCU, zBo])) .fail) qA1) .fail) (.fork y27 (.fork zLT (.leaf (some [zVX, zVV, qA0, zVW, zRp, zCG, zEJ, xBa, zLX, (.sB, y40, zC6), zCF, zCm,
 zRl, zRo, zRn, zRm, zEI, zEH, zCH, zBo])) .fail) qA4))) (.fork (.ib .eql .u8 y26 (.ci 9)) (.fork (.not y25) (.fork y27 (.fork y10 (.fork zPs (.fork zB5 (.fork (.app 321 zIl) (.leaf (some [xCS, xCR, qA0, xCQ, zRp, xCP, zYj, (.sI, y38, zDl), (.sI, y39, (.app 320 zIl)), (.sB, y40, zFF), xCO, (.sB, y42, zC6), zRl, zRo, zRn, zRm, zHh, zBQ, xCU, (.sB,
 y50, zC6)])) .fail) .fail) (.fork (.app 321 zIl) (.leaf (some [zVX, zVV, qA0, zVW, zRp, zCG, zYj, (.sI, y38, zDl), (.sI, y39, (.app 320 zIl)), (.sB, y40, zFF), zCF, (.sB, y42, zC6), zRl, zRo, zRn, zRm, zEG, zBQ, zCH, (.sB, y50, zC6)])) .fail)) (.fork zPs (.fork zB5 qA5 .fail) qA8)) (.fork zPs (.fork zB5 qA5 .fail) qA8)) (.fork zPs (.fork zB5
 (.fork y27 (.fork zLS (.leaf (some [xCS, xCR, qA0, xCQ, zRp, xCP, zYj, xBa, zLW, (.sB, y40, zFF), xCO, zCm, zRl, zRo, zRn, zRm, zEI, zEH, xCU, zBo])) .fail) qA5) .fail) (.fork y27 (.fork zLS (.leaf (some [zVX, zVV, qA0, zVW, zRp, zCG, zYj, xBa, zLW, (.sB, y40, zFF), zCF, zCm, zRl, zRo, zRn, zRm, zEI, zEH, zCH, zBo]))
 .fail) qA8))) (.fork (.not y25) (.fork y27 (.fork y10 (.fork zPs (.fork zB5 (.fork (.app 321 zIj) (.leaf (some [xCS, xCR, qA0, xCQ, zRp, xCP, zYj, (.sI, y38, zDl), (.sI, y39, (.app 320 zIj)), zEF, xCO, (.sB, y42, zC6), zRl, zRo, zRn, zRm, zHh, zBQ, xCU, (.sB, y50, zC6)])) .fail) .fail) (.fork (.app 321 zIj) (.leaf (some [zVX, zVV, qA0, zVW, zRp, zCG,
 zYj, (.sI, y38, zDl), (.sI, y39, (.app 320 zIj)), zEF, zCF, (.sB, y42, zC6), zRl, zRo, zRn, zRm, zEG, zBQ, zCH, (.sB, y50, zC6)])) .fail)) (.fork zPs (.fork zB5 qA2 .fail) qA6)) (.fork zPs (.fork zB5 qA2 .fail) qA6)) (.fork zPs (.fork zB5 (.fork y27 (.fork zLR (.leaf (some [xCS, xCR, qA0, xCQ, zRp, xCP, zEJ, xBa, zLV, zEF, xCO,
 zCm, zRl, zRo, zRn, zRm, zEI, zEH, xCU, zBo])) .fail) qA2) .fail) (.fork y27 (.fork zLR (.leaf (some [zVX, zVV, qA0, zVW, zRp, zCG, zEJ, xBa, zLV, zEF, zCF, zCm, zRl, zRo, zRn, zRm, zEI, zEH, zCH, zBo])) .fail) qA6)))))) .fail)) .fail) .fail))))
set_option maxRecDepth 100000 in
theorem zQx : SHear.tree Tryz.prog xE4 94 = xCe := by kernel_rfl
abbrev zTQ : Tm :=
 (tp [y4, y6, y7, y10, y24, y12, y15, y17, zC6])
def xBR : (Tree (Option Eqs)) :=
 (.fork y12 (.leaf (some [(.sI, y25, y6), (.sB, y26, y11)])) (.fork (.app 321 zTQ) (.leaf (some [(.sI, y25, (.app 320 zTQ)), (.sB, y26, y24)])) .fail))
set_option maxRecDepth 100000 in
theorem zQs : SWant.tree Tryz.prog xE4 63 = xBR := by kernel_rfl
abbrev xEw : Sr × Tm × Tm :=
 (.sS, y24, (.cs []))
abbrev xHX : Tm :=
 (.ib .add .i64 y5 (.ci 1))
abbrev zVU : Tree (Option Eqs) := (.leaf (some [xEw, zYk, xCT, (.sB, y27, zC6), (.sI, y28, y5), (.sI, y29, y6), (.sB, y30, y10), (.sB, y31, y12), (.sB, y32, y23)]))
abbrev xAW : Tree (Option Eqs) := (.fork (.ib .gtr .i64 xHX y14) (.leaf (some [xEw, zYk, xCT, (.sB, y27, zFF), (.sI, y28, xHX), (.sI, y29, zDl), (.sB, y30, y10), xAZ, (.sB, y32, y23)])) (.leaf (some [xEw, zYk, xCT, (.sB, y27, zC6), (.sI, y28, xHX), (.sI, y29, y15), (.sB, y30, zFF), (.sB, y31, y12), (.sB, y32, zFF)])))
def xBS : (Tree (Option Eqs)) :=
 (.fork y12 zVU (.fork (.ib .eql .i64 y6 zDl) zVU (.fork (.ib .gtr .i64 (.ib .sub .i64 y6 (.ci 1)) zDl) (.leaf (some [xEw, zYk, xCT, (.sB, y27, zC6), (.sI, y28, y5), (.sI, y29, (.ib .sub .i64 y6 (.ci 1))), (.sB, y30, y10), (.sB, y31, y12), (.sB, y32, y23)])) (.fork (.ib .gtr .i64 y4 zDl) xAW (.fork y10 xAW (.fork (.ib .gtr .i64 y5 y14) (.leaf (some [xEw, zYk, xCT, (.sB, y27,
 zFF), (.sI, y28, y5), (.sI, y29, zDl), (.sB, y30, y10), xAZ, (.sB, y32, y23)])) (.leaf (some [xEw, zYk, xCT, (.sB, y27, zC6), (.sI, y28, y5), (.sI, y29, y15), (.sB, y30, zFF), (.sB, y31, y12), (.sB, y32, zFF)]))))))))
set_option maxRecDepth 100000 in
theorem zQt : STick.tree Tryz.prog xE4 50 = xBS := by kernel_rfl
end
end Go.Proofs.YtenkabjkgngcdaaGreat.Ab
