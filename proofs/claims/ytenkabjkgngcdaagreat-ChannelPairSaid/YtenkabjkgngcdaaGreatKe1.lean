import Derived.Test.YtenkabjkgngcdaaGreatKd7
set_option linter.unusedVariables false
set_option linter.unusedSimpArgs false
set_option linter.unusedSectionVars false
namespace Go.Proofs.YtenkabjkgngcdaaGreat.Ab
open Go
noncomputable section
abbrev zMO : Tm := (tp [(.app 4481 (tp [(vt 11), (.not (.lget (vt 0) (vt 9) 2))])), (.app 4482 (tp [(vt 11), (.not (.lget (vt 0) (vt 9) 2))])), (.app 4483 (tp [(vt 11), (.not (.lget (vt 0) (vt 9) 2))])), (.app 4484 (tp [(vt 11), (.not (.lget (vt 0) (vt 9) 2))])), (.app 4485 (tp [(vt 11), (.not (.lget (vt 0) (vt 9) 2))])), (.app 4486 (tp [(vt 11), (.not (.lget (vt 0) (vt 9) 2))])), (.app 4487 (tp [(vt 11), (.not (.lget (vt 0) (vt 9) 2))]))])
def xHK : Tree (AX × Option Eqs) :=
 (.fork (.app 4489 (tp [(vt 11), (.not (.lget (vt 0) (vt 9) 2))]))
  (.fork (.app 4488 (tp [(vt 11), (.not (.lget (vt 0) (vt 9) 2))]))
   (.fork (.ib .lss .i64 (vt 21) (.ci 4294967295))
    (tlE (vt 10) (.app 4480 (tp [(vt 11), (.not (.lget (vt 0) (vt 9) 2))])) (vt 12) (vt 13) (vt 14) (vt 15) (vt 16) (vt 17) (vt 18) (vt 19) (.ci 0) (.llen (.lapp (.lcut (vt 22) (vt 20) (vt 21)) (.row zMO))) (.lapp (.lcut (vt 22) (vt 20) (vt 21)) (.row zMO)))
    .fail)
   (tlE (vt 10) (.app 4480 (tp [(vt 11), (.not (.lget (vt 0) (vt 9) 2))])) (vt 12) (vt 13) (vt 14) (vt 15) (vt 16) (vt 17) (vt 18) (vt 19) (vt 20) (vt 21) (vt 22)))
  .fail)
set_option maxRecDepth 100000 in
theorem xCq : zF9 true 6 = xHK := by kernel_rfl
abbrev xAu : Tm := (tp [(.app 4481 (tp [(vt 11), (.not (.lget (vt 0) (vt 9) 2))])), (.app 4482 (tp [(vt 11), (.not (.lget (vt 0) (vt 9) 2))])), (.app 4483 (tp [(vt 11), (.not (.lget (vt 0) (vt 9) 2))])), (.app 4484 (tp [(vt 11), (.not (.lget (vt 0) (vt 9) 2))])), (.app 4485 (tp [(vt 11), (.not (.lget (vt 0) (vt 9) 2))])), (.app 4486 (tp [(vt 11), (.not (.lget (vt 0) (vt 9) 2))])), (.app 4487 (tp [(vt 11), (.not (.lget (vt 0) (vt 9) 2))]))])
def xIP : Tree (AX × Option Eqs) :=
 (.fork (.app 4489 (tp [(vt 11), (.not (.lget (vt 0) (vt 9) 2))]))
  (.fork (.app 4488 (tp [(vt 11), (.not (.lget (vt 0) (vt 9) 2))]))
   (.fork (.ib .lss .i64 (vt 21) (.ci 4294967295))
    (tlE (vt 10) (.app 4480 (tp [(vt 11), (.not (.lget (vt 0) (vt 9) 2))])) (vt 12) (vt 13) (vt 14) (vt 15) (vt 16) (vt 17) (vt 18) (vt 19) (.ci 0) (.llen (.lapp (.lcut (vt 22) (vt 20) (vt 21)) (.row xAu))) (.lapp (.lcut (vt 22) (vt 20) (vt 21)) (.row xAu)))
    .fail)
   (tlE (vt 10) (.app 4480 (tp [(vt 11), (.not (.lget (vt 0) (vt 9) 2))])) (vt 12) (vt 13) (vt 14) (vt 15) (vt 16) (vt 17) (vt 18) (vt 19) (vt 20) (vt 21) (vt 22)))
  .fail)
set_option maxRecDepth 100000 in
theorem xCp : zF9 true 7 = xIP := by kernel_rfl
abbrev xAt : Tm := (tp [(.app 4481 (tp [(vt 11), (.not (.lget (vt 0) (vt 9) 2))])), (.app 4482 (tp [(vt 11), (.not (.lget (vt 0) (vt 9) 2))])), (.app 4483 (tp [(vt 11), (.not (.lget (vt 0) (vt 9) 2))])), (.app 4484 (tp [(vt 11), (.not (.lget (vt 0) (vt 9) 2))])), (.app 4485 (tp [(vt 11), (.not (.lget (vt 0) (vt 9) 2))])), (.app 4486 (tp [(vt 11), (.not (.lget (vt 0) (vt 9) 2))])), (.app 4487 (tp [(vt 11), (.not (.lget (vt 0) (vt 9) 2))]))])
def xIO : Tree (AX × Option Eqs) :=
 (.fork (.app 4489 (tp [(vt 11), (.not (.lget (vt 0) (vt 9) 2))]))
  (.fork (.app 4488 (tp [(vt 11), (.not (.lget (vt 0) (vt 9) 2))]))
   (.fork (.ib .lss .i64 (vt 21) (.ci 4294967295))
    (tlE (vt 10) (.app 4480 (tp [(vt 11), (.not (.lget (vt 0) (vt 9) 2))])) (vt 12) (vt 13) (vt 14) (vt 15) (vt 16) (vt 17) (vt 18) (vt 19) (.ci 0) (.llen (.lapp (.lcut (vt 22) (vt 20) (vt 21)) (.row xAt))) (.lapp (.lcut (vt 22) (vt 20) (vt 21)) (.row xAt)))
    .fail)
   (tlE (vt 10) (.app 4480 (tp [(vt 11), (.not (.lget (vt 0) (vt 9) 2))])) (vt 12) (vt 13) (vt 14) (vt 15) (vt 16) (vt 17) (vt 18) (vt 19) (vt 20) (vt 21) (vt 22)))
  .fail)
set_option maxRecDepth 100000 in
theorem xCo : zF9 true 8 = xIO := by kernel_rfl
abbrev zUj : Tm := (tp [(vt 10), (.lget (vt 22) (vt 20) 0), (.lget (vt 22) (vt 20) 1), (.lget (vt 22) (vt 20) 2), (.lget (vt 22) (vt 20) 3), (.lget (vt 22) (vt 20) 4), (.lget (vt 22) (vt 20) 5), (.lget (vt 22) (vt 20) 6)])
def xFk : Tree (AX × Option Eqs) :=
 (.fork (.ib .eql .i64 (vt 21) (.ci 0))
  (tlE (vt 10) (vt 11) (vt 12) (vt 13) (vt 14) (vt 15) (vt 16) (vt 17) (vt 18) (vt 19) (vt 20) (vt 21) (vt 22))
  (.fork (.ib .lss .i64 (.ci 0) (vt 21))
   (.fork (.ib .leq .i64 (.ci 1) (vt 21))
    (.fork (.app 4353 zUj)
     (.fork (.ib .neq .u8 (.lget (vt 10) (.ci 0) 48) (.ci 6))
      (.fork (.ib .eql .u8 (.lget (.app 4352 zUj) (.ci 0) 48) (.ci 6))
       (tlE (.app 4352 (tp [(vt 10), (.lget (vt 22) (vt 20) 0), (.lget (vt 22) (vt 20) 1), (.lget (vt 22) (vt 20) 2), (.lget (vt 22) (vt 20) 3), (.lget (vt 22) (vt 20) 4), (.lget (vt 22) (vt 20) 5), (.lget (vt 22) (vt 20) 6)])) (vt 11) (vt 12) (vt 13) (vt 14) (vt 15) (.cb true) (vt 17) (vt 18) (vt 19) (.plus (vt 20) (.ci 1)) (.minus (vt 21) (.ci 1)) (vt 22))
       (tlE (.app 4352 (tp [(vt 10), (.lget (vt 22) (vt 20) 0), (.lget (vt 22) (vt 20) 1), (.lget (vt 22) (vt 20) 2), (.lget (vt 22) (vt 20) 3), (.lget (vt 22) (vt 20) 4), (.lget (vt 22) (vt 20) 5), (.lget (vt 22) (vt 20) 6)])) (vt 11) (vt 12) (vt 13) (vt 14) (vt 15) (vt 16) (vt 17) (vt 18) (vt 19) (.plus (vt 20) (.ci 1)) (.minus (vt 21) (.ci 1)) (vt 22)))
      (tlE (.app 4352 (tp [(vt 10), (.lget (vt 22) (vt 20) 0), (.lget (vt 22) (vt 20) 1), (.lget (vt 22) (vt 20) 2), (.lget (vt 22) (vt 20) 3), (.lget (vt 22) (vt 20) 4), (.lget (vt 22) (vt 20) 5), (.lget (vt 22) (vt 20) 6)])) (vt 11) (vt 12) (vt 13) (vt 14) (vt 15) (vt 16) (vt 17) (vt 18) (vt 19) (.plus (vt 20) (.ci 1)) (.minus (vt 21) (.ci 1)) (vt 22)))
     .fail)
    .fail)
   .fail))
set_option maxRecDepth 100000 in
theorem zYC : zF9 true 10 = xFk := by kernel_rfl
abbrev zUi : Tm := (tp [(vt 10), (.lget (vt 22) (vt 20) 0), (.lget (vt 22) (vt 20) 1), (.lget (vt 22) (vt 20) 2), (.lget (vt 22) (vt 20) 3), (.lget (vt 22) (vt 20) 4), (.lget (vt 22) (vt 20) 5), (.lget (vt 22) (vt 20) 6)])
def xFj : Tree (AX × Option Eqs) :=
 (.fork (.ib .eql .i64 (vt 21) (.ci 0))
  (tlE (vt 10) (vt 11) (vt 12) (vt 13) (vt 14) (vt 15) (vt 16) (vt 17) (vt 18) (vt 19) (vt 20) (vt 21) (vt 22))
  (.fork (.ib .lss .i64 (.ci 0) (vt 21))
   (.fork (.ib .leq .i64 (.ci 1) (vt 21))
    (.fork (.app 4353 zUi)
     (.fork (.ib .neq .u8 (.lget (vt 10) (.ci 0) 48) (.ci 6))
      (.fork (.ib .eql .u8 (.lget (.app 4352 zUi) (.ci 0) 48) (.ci 6))
       (tlE (.app 4352 (tp [(vt 10), (.lget (vt 22) (vt 20) 0), (.lget (vt 22) (vt 20) 1), (.lget (vt 22) (vt 20) 2), (.lget (vt 22) (vt 20) 3), (.lget (vt 22) (vt 20) 4), (.lget (vt 22) (vt 20) 5), (.lget (vt 22) (vt 20) 6)])) (vt 11) (vt 12) (vt 13) (vt 14) (vt 15) (.cb true) (vt 17) (vt 18) (vt 19) (.plus (vt 20) (.ci 1)) (.minus (vt 21) (.ci 1)) (vt 22))
       (tlE (.app 4352 (tp [(vt 10), (.lget (vt 22) (vt 20) 0), (.lget (vt 22) (vt 20) 1), (.lget (vt 22) (vt 20) 2), (.lget (vt 22) (vt 20) 3), (.lget (vt 22) (vt 20) 4), (.lget (vt 22) (vt 20) 5), (.lget (vt 22) (vt 20) 6)])) (vt 11) (vt 12) (vt 13) (vt 14) (vt 15) (vt 16) (vt 17) (vt 18) (vt 19) (.plus (vt 20) (.ci 1)) (.minus (vt 21) (.ci 1)) (vt 22)))
      (tlE (.app 4352 (tp [(vt 10), (.lget (vt 22) (vt 20) 0), (.lget (vt 22) (vt 20) 1), (.lget (vt 22) (vt 20) 2), (.lget (vt 22) (vt 20) 3), (.lget (vt 22) (vt 20) 4), (.lget (vt 22) (vt 20) 5), (.lget (vt 22) (vt 20) 6)])) (vt 11) (vt 12) (vt 13) (vt 14) (vt 15) (vt 16) (vt 17) (vt 18) (vt 19) (.plus (vt 20) (.ci 1)) (.minus (vt 21) (.ci 1)) (vt 22)))
     .fail)
    .fail)
   .fail))
set_option maxRecDepth 100000 in
theorem zYB : zF9 true 11 = xFj := by kernel_rfl
def xCw : Tree (AX × Option Eqs) :=
 (.fork (.app 4417 (tp [(vt 10)]))
  (.fork (.app 4417 (tp [(vt 11)]))
   (tlE (.app 4416 (tp [(vt 10)])) (.app 4416 (tp [(vt 11)])) (vt 12) (vt 13) (vt 14) (vt 15) (vt 16) (vt 17) (vt 18) (vt 19) (vt 20) (vt 21) (vt 22))
   .fail)
  .fail)
set_option maxRecDepth 100000 in
theorem zY5 : zF9 true 13 = xCw := by kernel_rfl
end
end Go.Proofs.YtenkabjkgngcdaaGreat.Ab
