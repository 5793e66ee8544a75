import Derived.Test.YtenkabjkgngcdaaGreatKd7
set_option linter.unusedVariables false
set_option linter.unusedSimpArgs false
set_option linter.unusedSectionVars false
namespace Go.Proofs.YtenkabjkgngcdaaGreat.Ab
open Go
noncomputable section
def xHO : Tree (AX × Option Eqs) :=
 (.fork (.app 4098 (tp [(vt 11)]))
  (tlE (vt 10) (.app 4096 (tp [(vt 11)])) (vt 12) (vt 13) (vt 14) (vt 15) (vt 16) (vt 17) (vt 18) (vt 19) (vt 20) (vt 21) (vt 22))
  .fail)
set_option maxRecDepth 100000 in
theorem xCy : zF9 true 0 = xHO := by kernel_rfl
def xHN : Tree (AX × Option Eqs) :=
 (.fork (.lget (vt 0) (vt 9) 2)
  (.fork (.app 4162 (tp [(vt 11)]))
   (tlE (vt 10) (.app 4160 (tp [(vt 11)])) (vt 12) (vt 13) (vt 14) (vt 15) (vt 16) (vt 17) (vt 18) (vt 19) (vt 20) (vt 21) (vt 22))
   .fail)
  (tlE (vt 10) (vt 11) (vt 12) (vt 13) (vt 14) (vt 15) (vt 16) (vt 17) (vt 18) (vt 19) (vt 20) (vt 21) (vt 22)))
set_option maxRecDepth 100000 in
theorem xCv : zF9 true 1 = xHN := by kernel_rfl
abbrev xFi : Tm := (.ib .gtr .i64 (.ci 0) (.app 4225 (tp [(vt 11), (.lget (vt 0) (vt 9) 4)])))
abbrev xA2 : Tm := (.ite xFi (.ci 0) (.app 4225 (tp [(vt 11), (.lget (vt 0) (vt 9) 4)])))
abbrev zGc : Tm := (.ite (.ib .lss .i64 (.len (.lget (vt 0) (vt 9) 4)) xA2) (.len (.lget (vt 0) (vt 9) 4)) xA2)
abbrev xAz : Tm := (.and (.ib .leq .i64 (.ci 0) zGc) (.ib .leq .i64 zGc (.len (.lget (vt 0) (vt 9) 4))))
abbrev xAy : Tm := (.plus (.len (vt 13)) (.len (.cut (.lget (vt 0) (vt 9) 4) (.ci 0) zGc)))
def xHM : Tree (AX × Option Eqs) :=
 (.fork (.app 4227 (tp [(vt 11), (.lget (vt 0) (vt 9) 4)]))
  (.fork xAz
   (.fork (.ib .leq .i64 xAy (.ci 9223372036854775807))
    (tlE (vt 10) (.app 4224 (tp [(vt 11), (.lget (vt 0) (vt 9) 4)])) (vt 12) (.sb .add (vt 13) (.cut (.lget (vt 0) (vt 9) 4) (.ci 0) zGc)) (vt 14) (vt 15) (vt 16) (vt 17) (vt 18) (vt 19) (vt 20) (vt 21) (vt 22))
    .fail)
   .fail)
  .fail)
set_option maxRecDepth 100000 in
theorem xCu : zF9 true 2 = xHM := by kernel_rfl
abbrev xFh : Tm := (.ib .gtr .i64 (.ci 0) (.app 4225 (tp [(vt 11), (.lget (vt 0) (vt 9) 4)])))
abbrev xAx : Tm := (.ite xFh (.ci 0) (.app 4225 (tp [(vt 11), (.lget (vt 0) (vt 9) 4)])))
abbrev zQC : Tm := (.ite (.ib .lss .i64 (.len (.lget (vt 0) (vt 9) 4)) xAx) (.len (.lget (vt 0) (vt 9) 4)) xAx)
abbrev xFg : Tm := (.and (.ib .leq .i64 (.ci 0) zQC) (.ib .leq .i64 zQC (.len (.lget (vt 0) (vt 9) 4))))
abbrev xFf : Tm := (.plus (.len (vt 13)) (.len (.cut (.lget (vt 0) (vt 9) 4) (.ci 0) zQC)))
def xIR : Tree (AX × Option Eqs) :=
 (.fork (.app 4227 (tp [(vt 11), (.lget (vt 0) (vt 9) 4)]))
  (.fork xFg
   (.fork (.ib .leq .i64 xFf (.ci 9223372036854775807))
    (tlE (vt 10) (.app 4224 (tp [(vt 11), (.lget (vt 0) (vt 9) 4)])) (vt 12) (.sb .add (vt 13) (.cut (.lget (vt 0) (vt 9) 4) (.ci 0) zQC)) (vt 14) (vt 15) (vt 16) (vt 17) (vt 18) (vt 19) (vt 20) (vt 21) (vt 22))
    .fail)
   .fail)
  .fail)
set_option maxRecDepth 100000 in
theorem xCt : zF9 true 3 = xIR := by kernel_rfl
abbrev zUa : Tm := (.len (.app 4289 (tp [(vt 11), (.wrap .i64 (.lget (vt 0) (vt 9) 3))])))
abbrev xAw : Tm := (.ib .leq .i64 (.plus (.len (vt 14)) zUa) (.ci 9223372036854775807))
abbrev xAv : Tm := (.sb .add (vt 14) (.app 4289 (tp [(vt 11), (.wrap .i64 (.lget (vt 0) (vt 9) 3))])))
def xHL : Tree (AX × Option Eqs) :=
 (.fork (.app 4290 (tp [(vt 11), (.wrap .i64 (.lget (vt 0) (vt 9) 3))]))
  (.fork xAw
   (tlE (vt 10) (.app 4288 (tp [(vt 11), (.wrap .i64 (.lget (vt 0) (vt 9) 3))])) (vt 12) (vt 13) xAv (vt 15) (vt 16) (vt 17) (vt 18) (vt 19) (vt 20) (vt 21) (vt 22))
   .fail)
  .fail)
set_option maxRecDepth 100000 in
theorem xCs : zF9 true 4 = xHL := by kernel_rfl
abbrev xFe : Tm := (.len (.app 4289 (tp [(vt 11), (.wrap .i64 (.lget (vt 0) (vt 9) 3))])))
abbrev xFd : Tm := (.ib .leq .i64 (.plus (.len (vt 14)) xFe) (.ci 9223372036854775807))
abbrev xFc : Tm := (.sb .add (vt 14) (.app 4289 (tp [(vt 11), (.wrap .i64 (.lget (vt 0) (vt 9) 3))])))
def xIQ : Tree (AX × Option Eqs) :=
 (.fork (.app 4290 (tp [(vt 11), (.wrap .i64 (.lget (vt 0) (vt 9) 3))]))
  (.fork xFd
   (tlE (vt 10) (.app 4288 (tp [(vt 11), (.wrap .i64 (.lget (vt 0) (vt 9) 3))])) (vt 12) (vt 13) xFc (vt 15) (vt 16) (vt 17) (vt 18) (vt 19) (vt 20) (vt 21) (vt 22))
   .fail)
  .fail)
set_option maxRecDepth 100000 in
theorem xCr : zF9 true 5 = xIQ := by kernel_rfl
abbrev xAs : Tm := (tp [(vt 10), (.lget (vt 22) (vt 20) 0), (.lget (vt 22) (vt 20) 1), (.lget (vt 22) (vt 20) 2), (.lget (vt 22) (vt 20) 3), (.lget (vt 22) (vt 20) 4), (.lget (vt 22) (vt 20) 5), (.lget (vt 22) (vt 20) 6)])
def xHJ : Tree (AX × Option Eqs) :=
 (.fork (.ib .eql .i64 (vt 21) (.ci 0))
  (tlE (vt 10) (vt 11) (vt 12) (vt 13) (vt 14) (vt 15) (vt 16) (vt 17) (vt 18) (vt 19) (vt 20) (vt 21) (vt 22))
  (.fork (.ib .lss .i64 (.ci 0) (vt 21))
   (.fork (.ib .leq .i64 (.ci 1) (vt 21))
    (.fork (.app 4353 xAs)
     (.fork (.ib .neq .u8 (.lget (vt 10) (.ci 0) 48) (.ci 6))
      (.fork (.ib .eql .u8 (.lget (.app 4352 xAs) (.ci 0) 48) (.ci 6))
       (tlE (.app 4352 (tp [(vt 10), (.lget (vt 22) (vt 20) 0), (.lget (vt 22) (vt 20) 1), (.lget (vt 22) (vt 20) 2), (.lget (vt 22) (vt 20) 3), (.lget (vt 22) (vt 20) 4), (.lget (vt 22) (vt 20) 5), (.lget (vt 22) (vt 20) 6)])) (vt 11) (vt 12) (vt 13) (vt 14) (vt 15) (.cb true) (vt 17) (vt 18) (vt 19) (.plus (vt 20) (.ci 1)) (.minus (vt 21) (.ci 1)) (vt 22))
       (tlE (.app 4352 (tp [(vt 10), (.lget (vt 22) (vt 20) 0), (.lget (vt 22) (vt 20) 1), (.lget (vt 22) (vt 20) 2), (.lget (vt 22) (vt 20) 3), (.lget (vt 22) (vt 20) 4), (.lget (vt 22) (vt 20) 5), (.lget (vt 22) (vt 20) 6)])) (vt 11) (vt 12) (vt 13) (vt 14) (vt 15) (vt 16) (vt 17) (vt 18) (vt 19) (.plus (vt 20) (.ci 1)) (.minus (vt 21) (.ci 1)) (vt 22)))
      (tlE (.app 4352 (tp [(vt 10), (.lget (vt 22) (vt 20) 0), (.lget (vt 22) (vt 20) 1), (.lget (vt 22) (vt 20) 2), (.lget (vt 22) (vt 20) 3), (.lget (vt 22) (vt 20) 4), (.lget (vt 22) (vt 20) 5), (.lget (vt 22) (vt 20) 6)])) (vt 11) (vt 12) (vt 13) (vt 14) (vt 15) (vt 16) (vt 17) (vt 18) (vt 19) (.plus (vt 20) (.ci 1)) (.minus (vt 21) (.ci 1)) (vt 22)))
     .fail)
    .fail)
   .fail))
set_option maxRecDepth 100000 in
theorem xCn : zF9 true 9 = xHJ := by kernel_rfl
def xCx : Tree (AX × Option Eqs) :=
 (.fork (.ib .gtr .i64 (vt 21) (.ci 0))
  (.fork (.ib .leq .i64 (.ci 1) (vt 21))
   (tlE (vt 10) (vt 11) (vt 12) (vt 13) (vt 14) (vt 15) (vt 16) (vt 17) (vt 18) (vt 19) (.plus (vt 20) (.ci 1)) (.minus (vt 21) (.ci 1)) (vt 22))
   .fail)
  (tlE (vt 10) (vt 11) (vt 12) (vt 13) (vt 14) (vt 15) (vt 16) (vt 17) (vt 18) (vt 19) (vt 20) (vt 21) (vt 22)))
set_option maxRecDepth 100000 in
theorem zYA : zF9 true 12 = xCx := by kernel_rfl
end
end Go.Proofs.YtenkabjkgngcdaaGreat.Ab
