import Derived.Test.YtenkabjkgngcdaaGreatKd7
import Derived.Test.YtenkabjkgngcdaaGreatKb6
set_option linter.unusedVariables false
set_option linter.unusedSimpArgs false
set_option linter.unusedSectionVars false
namespace Go.Proofs.YtenkabjkgngcdaaGreat.Ab
open Go
noncomputable section
def xHU : Tree (AX × Option Eqs) :=
 (.fork (.app 4098 (tp [y10])) (tlE (.app 4096 (tp [y10])) y11 y12 y13 y14 y15 y16 y17 y18 y19 y20 y21 y22) .fail)
set_option maxRecDepth 100000 in
theorem xCF : zF9 false 0 = xHU := by kernel_rfl
def xHT : Tree (AX × Option Eqs) :=
 (.fork (.lget y0 y9 2) (.fork (.app 4162 (tp [y10])) (tlE (.app 4160 (tp [y10])) y11 y12 y13 y14 y15 y16 y17 y18 y19 y20 y21 y22) .fail) (tlE y10 y11 y12 y13 y14 y15 y16 y17 y18 y19 y20 y21 y22))
set_option maxRecDepth 100000 in
theorem xCC : zF9 false 1 = xHT := by kernel_rfl
abbrev zDf : Tm := (.ci 0)
abbrev zK2 : Tm := (.lget y0 y9 4)
abbrev zMV : Tm := (tp [y10, zK2])
abbrev zQL : Tm := (.app 4225 zMV)
abbrev xFs : Tm :=
 (.ib .gtr .i64 zDf zQL)
abbrev xAE : Tm :=
 (.ite xFs zDf zQL)
abbrev zKz : Tm := (.len zK2)
abbrev zGe : Tm :=
 (.ite (.ib .lss .i64 zKz xAE) zKz xAE)
abbrev xAC : Tm :=
 (.and (.ib .leq .i64 zDf zGe) (.ib .leq .i64 zGe zKz))
abbrev xAB : Tm :=
 (.plus (.len y12) (.len (.cut zK2 zDf zGe)))
abbrev zQO : Tm := (.ci 9223372036854775807)
def xHS : Tree (AX × Option Eqs) :=
 (.fork (.app 4227 zMV) (.fork xAC (.fork (.ib .leq .i64 xAB zQO) (tlE (.app 4224 zMV) y11 (.sb .add y12 (.cut zK2 zDf zGe)) y13 y14 y15 y16 y17 y18 y19 y20 y21 y22) .fail) .fail) .fail)
set_option maxRecDepth 100000 in
theorem xCB : zF9 false 2 = xHS := by kernel_rfl
abbrev xFr : Tm :=
 (.ib .gtr .i64 zDf zQL)
abbrev xAA : Tm :=
 (.ite xFr zDf zQL)
abbrev zQF : Tm :=
 (.ite (.ib .lss .i64 zKz xAA) zKz xAA)
abbrev xFq : Tm :=
 (.and (.ib .leq .i64 zDf zQF) (.ib .leq .i64 zQF zKz))
abbrev xFp : Tm :=
 (.plus (.len y12) (.len (.cut zK2 zDf zQF)))
def xIV : Tree (AX × Option Eqs) :=
 (.fork (.app 4227 zMV) (.fork xFq (.fork (.ib .leq .i64 xFp zQO) (tlE (.app 4224 zMV) y11 (.sb .add y12 (.cut zK2 zDf zQF)) y13 y14 y15 y16 y17 y18 y19 y20 y21 y22) .fail) .fail) .fail)
set_option maxRecDepth 100000 in
theorem xCA : zF9 false 3 = xIV := by kernel_rfl
abbrev zMY : Tm := (tp [y10, (.wrap .i64 (.lget y0 y9 3))])
abbrev zLJ : Tm := (.app 4289 zMY)
abbrev zUl : Tm :=
 (.len zLJ)
abbrev xA7 : Tm :=
 (.ib .leq .i64 (.plus (.len y15) zUl) zQO)
abbrev xA6 : Tm :=
 (.sb .add y15 zLJ)
def xHR : Tree (AX × Option Eqs) :=
 (.fork (.app 4290 zMY) (.fork xA7 (tlE (.app 4288 zMY) y11 y12 y13 y14 xA6 y16 y17 y18 y19 y20 y21 y22) .fail) .fail)
set_option maxRecDepth 100000 in
theorem xC9 : zF9 false 4 = xHR := by kernel_rfl
abbrev xFo : Tm :=
 (.len zLJ)
abbrev xFn : Tm :=
 (.ib .leq .i64 (.plus (.len y15) xFo) zQO)
abbrev xFm : Tm :=
 (.sb .add y15 zLJ)
def xIU : Tree (AX × Option Eqs) :=
 (.fork (.app 4290 zMY) (.fork xFn (tlE (.app 4288 zMY) y11 y12 y13 y14 xFm y16 y17 y18 y19 y20 y21 y22) .fail) .fail)
set_option maxRecDepth 100000 in
theorem xC8 : zF9 false 5 = xIU := by kernel_rfl
abbrev zQP : Tm := (tp [y11, (.lget y19 y17 0), (.lget y19 y17 1), (.lget y19 y17 2), (.lget y19 y17 3), (.lget y19 y17 4), (.lget y19 y17 5), (.lget y19 y17 6)])
abbrev xA3 : Tm :=
 zQP
abbrev zQM : Tm := (.plus y17 (.ci 1))
abbrev zQN : Tm := (.minus y18 (.ci 1))
def xHP : Tree (AX × Option Eqs) :=
 (.fork (.ib .eql .i64 y18 zDf) (tlE y10 y11 y12 y13 y14 y15 y16 y17 y18 y19 y20 y21 y22) (.fork (.ib .lss .i64 zDf y18) (.fork (.ib .leq .i64 (.ci 1) y18) (.fork (.app 4353 xA3) (.fork (.ib .neq .u8 (.lget y11 zDf 48) (.ci 6)) (.fork (.ib .eql .u8 (.lget (.app 4352 xA3) zDf 48) (.ci 6)) (tlE y10 (.app 4352 zQP) y12 y13 y14 y15 (.cb true) zQM zQN y19 y20 y21 y22) (tlE y10 (.app 4352 zQP) y12 y13 y14 y15 y16 zQM zQN y19 y20 y21 y22)) (tlE y10 (.app 4352 zQP) y12 y13 y14 y15 y16 zQM zQN y19 y20 y21 y22)) .fail) .fail) .fail))
set_option maxRecDepth 100000 in
theorem xC4 : zF9 false 9 = xHP := by kernel_rfl
def xCE : Tree (AX × Option Eqs) :=
 (.fork (.ib .gtr .i64 y18 zDf) (.fork (.ib .leq .i64 (.ci 1) y18) (tlE y10 y11 y12 y13 y14 y15 y16 zQM zQN y19 y20 y21 y22) .fail) (tlE y10 y11 y12 y13 y14 y15 y16 y17 y18 y19 y20 y21 y22))
set_option maxRecDepth 100000 in
theorem zYF : zF9 false 12 = xCE := by kernel_rfl
end
end Go.Proofs.YtenkabjkgngcdaaGreat.Ab
