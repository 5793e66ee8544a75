import Derived.Test.YtenkabjkgngcdaaGreatKd7
set_option linter.unusedVariables false
set_option linter.unusedSimpArgs false
set_option linter.unusedSectionVars false
namespace Go.Proofs.YtenkabjkgngcdaaGreat.Ab
open Go
noncomputable section
abbrev zMR : Tm := (tp [(.app 4481 (tp [(vt 10), (.not (.lget (vt 0) (vt 9) 2))])), (.app 4482 (tp [(vt 10), (.not (.lget (vt 0) (vt 9) 2))])), (.app 4483 (tp [(vt 10), (.not (.lget (vt 0) (vt 9) 2))])), (.app 4484 (tp [(vt 10), (.not (.lget (vt 0) (vt 9) 2))])), (.app 4485 (tp [(vt 10), (.not (.lget (vt 0) (vt 9) 2))])), (.app 4486 (tp [(vt 10), (.not (.lget (vt 0) (vt 9) 2))])), (.app 4487 (tp [(vt 10), (.not (.lget (vt 0) (vt 9) 2))]))])
def xHQ : Tree (AX × Option Eqs) :=
 (.fork (.app 4489 (tp [(vt 10), (.not (.lget (vt 0) (vt 9) 2))]))
  (.fork (.app 4488 (tp [(vt 10), (.not (.lget (vt 0) (vt 9) 2))]))
   (.fork (.ib .lss .i64 (vt 18) (.ci 4294967295))
    (tlE (.app 4480 (tp [(vt 10), (.not (.lget (vt 0) (vt 9) 2))])) (vt 11) (vt 12) (vt 13) (vt 14) (vt 15) (vt 16) (.ci 0) (.llen (.lapp (.lcut (vt 19) (vt 17) (vt 18)) (.row zMR))) (.lapp (.lcut (vt 19) (vt 17) (vt 18)) (.row zMR)) (vt 20) (vt 21) (vt 22))
    .fail)
   (tlE (.app 4480 (tp [(vt 10), (.not (.lget (vt 0) (vt 9) 2))])) (vt 11) (vt 12) (vt 13) (vt 14) (vt 15) (vt 16) (vt 17) (vt 18) (vt 19) (vt 20) (vt 21) (vt 22)))
  .fail)
set_option maxRecDepth 100000 in
theorem xC7 : zF9 false 6 = xHQ := by kernel_rfl
abbrev xA5 : Tm := (tp [(.app 4481 (tp [(vt 10), (.not (.lget (vt 0) (vt 9) 2))])), (.app 4482 (tp [(vt 10), (.not (.lget (vt 0) (vt 9) 2))])), (.app 4483 (tp [(vt 10), (.not (.lget (vt 0) (vt 9) 2))])), (.app 4484 (tp [(vt 10), (.not (.lget (vt 0) (vt 9) 2))])), (.app 4485 (tp [(vt 10), (.not (.lget (vt 0) (vt 9) 2))])), (.app 4486 (tp [(vt 10), (.not (.lget (vt 0) (vt 9) 2))])), (.app 4487 (tp [(vt 10), (.not (.lget (vt 0) (vt 9) 2))]))])
def xIT : Tree (AX × Option Eqs) :=
 (.fork (.app 4489 (tp [(vt 10), (.not (.lget (vt 0) (vt 9) 2))]))
  (.fork (.app 4488 (tp [(vt 10), (.not (.lget (vt 0) (vt 9) 2))]))
   (.fork (.ib .lss .i64 (vt 18) (.ci 4294967295))
    (tlE (.app 4480 (tp [(vt 10), (.not (.lget (vt 0) (vt 9) 2))])) (vt 11) (vt 12) (vt 13) (vt 14) (vt 15) (vt 16) (.ci 0) (.llen (.lapp (.lcut (vt 19) (vt 17) (vt 18)) (.row xA5))) (.lapp (.lcut (vt 19) (vt 17) (vt 18)) (.row xA5)) (vt 20) (vt 21) (vt 22))
    .fail)
   (tlE (.app 4480 (tp [(vt 10), (.not (.lget (vt 0) (vt 9) 2))])) (vt 11) (vt 12) (vt 13) (vt 14) (vt 15) (vt 16) (vt 17) (vt 18) (vt 19) (vt 20) (vt 21) (vt 22)))
  .fail)
set_option maxRecDepth 100000 in
theorem xC6 : zF9 false 7 = xIT := by kernel_rfl
abbrev xA4 : Tm := (tp [(.app 4481 (tp [(vt 10), (.not (.lget (vt 0) (vt 9) 2))])), (.app 4482 (tp [(vt 10), (.not (.lget (vt 0) (vt 9) 2))])), (.app 4483 (tp [(vt 10), (.not (.lget (vt 0) (vt 9) 2))])), (.app 4484 (tp [(vt 10), (.not (.lget (vt 0) (vt 9) 2))])), (.app 4485 (tp [(vt 10), (.not (.lget (vt 0) (vt 9) 2))])), (.app 4486 (tp [(vt 10), (.not (.lget (vt 0) (vt 9) 2))])), (.app 4487 (tp [(vt 10), (.not (.lget (vt 0) (vt 9) 2))]))])
def xIS : Tree (AX × Option Eqs) :=
 (.fork (.app 4489 (tp [(vt 10), (.not (.lget (vt 0) (vt 9) 2))]))
  (.fork (.app 4488 (tp [(vt 10), (.not (.lget (vt 0) (vt 9) 2))]))
   (.fork (.ib .lss .i64 (vt 18) (.ci 4294967295))
    (tlE (.app 4480 (tp [(vt 10), (.not (.lget (vt 0) (vt 9) 2))])) (vt 11) (vt 12) (vt 13) (vt 14) (vt 15) (vt 16) (.ci 0) (.llen (.lapp (.lcut (vt 19) (vt 17) (vt 18)) (.row xA4))) (.lapp (.lcut (vt 19) (vt 17) (vt 18)) (.row xA4)) (vt 20) (vt 21) (vt 22))
    .fail)
   (tlE (.app 4480 (tp [(vt 10), (.not (.lget (vt 0) (vt 9) 2))])) (vt 11) (vt 12) (vt 13) (vt 14) (vt 15) (vt 16) (vt 17) (vt 18) (vt 19) (vt 20) (vt 21) (vt 22)))
  .fail)
set_option maxRecDepth 100000 in
theorem xC5 : zF9 false 8 = xIS := by kernel_rfl
abbrev zUn : Tm := (tp [(vt 11), (.lget (vt 19) (vt 17) 0), (.lget (vt 19) (vt 17) 1), (.lget (vt 19) (vt 17) 2), (.lget (vt 19) (vt 17) 3), (.lget (vt 19) (vt 17) 4), (.lget (vt 19) (vt 17) 5), (.lget (vt 19) (vt 17) 6)])
def xFu : Tree (AX × Option Eqs) :=
 (.fork (.ib .eql .i64 (vt 18) (.ci 0))
  (tlE (vt 10) (vt 11) (vt 12) (vt 13) (vt 14) (vt 15) (vt 16) (vt 17) (vt 18) (vt 19) (vt 20) (vt 21) (vt 22))
  (.fork (.ib .lss .i64 (.ci 0) (vt 18))
   (.fork (.ib .leq .i64 (.ci 1) (vt 18))
    (.fork (.app 4353 zUn)
     (.fork (.ib .neq .u8 (.lget (vt 11) (.ci 0) 48) (.ci 6))
      (.fork (.ib .eql .u8 (.lget (.app 4352 zUn) (.ci 0) 48) (.ci 6))
       (tlE (vt 10) (.app 4352 (tp [(vt 11), (.lget (vt 19) (vt 17) 0), (.lget (vt 19) (vt 17) 1), (.lget (vt 19) (vt 17) 2), (.lget (vt 19) (vt 17) 3), (.lget (vt 19) (vt 17) 4), (.lget (vt 19) (vt 17) 5), (.lget (vt 19) (vt 17) 6)])) (vt 12) (vt 13) (vt 14) (vt 15) (.cb true) (.plus (vt 17) (.ci 1)) (.minus (vt 18) (.ci 1)) (vt 19) (vt 20) (vt 21) (vt 22))
       (tlE (vt 10) (.app 4352 (tp [(vt 11), (.lget (vt 19) (vt 17) 0), (.lget (vt 19) (vt 17) 1), (.lget (vt 19) (vt 17) 2), (.lget (vt 19) (vt 17) 3), (.lget (vt 19) (vt 17) 4), (.lget (vt 19) (vt 17) 5), (.lget (vt 19) (vt 17) 6)])) (vt 12) (vt 13) (vt 14) (vt 15) (vt 16) (.plus (vt 17) (.ci 1)) (.minus (vt 18) (.ci 1)) (vt 19) (vt 20) (vt 21) (vt 22)))
      (tlE (vt 10) (.app 4352 (tp [(vt 11), (.lget (vt 19) (vt 17) 0), (.lget (vt 19) (vt 17) 1), (.lget (vt 19) (vt 17) 2), (.lget (vt 19) (vt 17) 3), (.lget (vt 19) (vt 17) 4), (.lget (vt 19) (vt 17) 5), (.lget (vt 19) (vt 17) 6)])) (vt 12) (vt 13) (vt 14) (vt 15) (vt 16) (.plus (vt 17) (.ci 1)) (.minus (vt 18) (.ci 1)) (vt 19) (vt 20) (vt 21) (vt 22)))
     .fail)
    .fail)
   .fail))
set_option maxRecDepth 100000 in
theorem zYH : zF9 false 10 = xFu := by kernel_rfl
abbrev zUm : Tm := (tp [(vt 11), (.lget (vt 19) (vt 17) 0), (.lget (vt 19) (vt 17) 1), (.lget (vt 19) (vt 17) 2), (.lget (vt 19) (vt 17) 3), (.lget (vt 19) (vt 17) 4), (.lget (vt 19) (vt 17) 5), (.lget (vt 19) (vt 17) 6)])
def xFt : Tree (AX × Option Eqs) :=
 (.fork (.ib .eql .i64 (vt 18) (.ci 0))
  (tlE (vt 10) (vt 11) (vt 12) (vt 13) (vt 14) (vt 15) (vt 16) (vt 17) (vt 18) (vt 19) (vt 20) (vt 21) (vt 22))
  (.fork (.ib .lss .i64 (.ci 0) (vt 18))
   (.fork (.ib .leq .i64 (.ci 1) (vt 18))
    (.fork (.app 4353 zUm)
     (.fork (.ib .neq .u8 (.lget (vt 11) (.ci 0) 48) (.ci 6))
      (.fork (.ib .eql .u8 (.lget (.app 4352 zUm) (.ci 0) 48) (.ci 6))
       (tlE (vt 10) (.app 4352 (tp [(vt 11), (.lget (vt 19) (vt 17) 0), (.lget (vt 19) (vt 17) 1), (.lget (vt 19) (vt 17) 2), (.lget (vt 19) (vt 17) 3), (.lget (vt 19) (vt 17) 4), (.lget (vt 19) (vt 17) 5), (.lget (vt 19) (vt 17) 6)])) (vt 12) (vt 13) (vt 14) (vt 15) (.cb true) (.plus (vt 17) (.ci 1)) (.minus (vt 18) (.ci 1)) (vt 19) (vt 20) (vt 21) (vt 22))
       (tlE (vt 10) (.app 4352 (tp [(vt 11), (.lget (vt 19) (vt 17) 0), (.lget (vt 19) (vt 17) 1), (.lget (vt 19) (vt 17) 2), (.lget (vt 19) (vt 17) 3), (.lget (vt 19) (vt 17) 4), (.lget (vt 19) (vt 17) 5), (.lget (vt 19) (vt 17) 6)])) (vt 12) (vt 13) (vt 14) (vt 15) (vt 16) (.plus (vt 17) (.ci 1)) (.minus (vt 18) (.ci 1)) (vt 19) (vt 20) (vt 21) (vt 22)))
      (tlE (vt 10) (.app 4352 (tp [(vt 11), (.lget (vt 19) (vt 17) 0), (.lget (vt 19) (vt 17) 1), (.lget (vt 19) (vt 17) 2), (.lget (vt 19) (vt 17) 3), (.lget (vt 19) (vt 17) 4), (.lget (vt 19) (vt 17) 5), (.lget (vt 19) (vt 17) 6)])) (vt 12) (vt 13) (vt 14) (vt 15) (vt 16) (.plus (vt 17) (.ci 1)) (.minus (vt 18) (.ci 1)) (vt 19) (vt 20) (vt 21) (vt 22)))
     .fail)
    .fail)
   .fail))
set_option maxRecDepth 100000 in
theorem zYG : zF9 false 11 = xFt := by kernel_rfl
def xCD : Tree (AX × Option Eqs) :=
 (.fork (.app 4417 (tp [(vt 10)]))
  (.fork (.app 4417 (tp [(vt 11)]))
   (tlE (.app 4416 (tp [(vt 10)])) (.app 4416 (tp [(vt 11)])) (vt 12) (vt 13) (vt 14) (vt 15) (vt 16) (vt 17) (vt 18) (vt 19) (vt 20) (vt 21) (vt 22))
   .fail)
  .fail)
set_option maxRecDepth 100000 in
theorem zYE : zF9 false 13 = xCD := by kernel_rfl
end
end Go.Proofs.YtenkabjkgngcdaaGreat.Ab
