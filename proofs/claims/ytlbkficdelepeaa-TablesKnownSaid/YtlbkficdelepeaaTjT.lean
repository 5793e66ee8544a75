/-
  TablesJudge: what rounds of its loops do, as trees.
  No condition.
-/
import Derived.Test.YtlbkficdelepeaaTjL
namespace Go.Proofs.Ytlbkficdelepeaa.Ab
set_option linter.unusedSimpArgs false
set_option linter.unusedVariables false
open Go
noncomputable section
abbrev rt1T_0 : Tm := (.and (.ib .leq .i64 (.ci 0) (vt 2)) (.ib .lss .i64 (vt 2) (.llen (vt 0))))
abbrev rt1T_1 : Tm := (tp [(vt 3), (vt 4), (vt 5), (vt 6), (vt 7), (vt 8), (vt 9), (vt 10), (vt 11), (.lget (vt 0) (vt 2) 0), (.lget (vt 0) (vt 2) 1), (.lget (vt 0) (vt 2) 2), (.lget (vt 0) (vt 2) 3), (.lget (vt 0) (vt 2) 4), (.lget (vt 0) (vt 2) 5), (.lget (vt 0) (vt 2) 6), (.lget (vt 0) (vt 2) 7)])
abbrev rt1T_2 : Tm := (tp [(vt 3), (vt 4), (vt 5), (vt 6), (vt 7), (vt 8), (vt 9), (vt 10), (vt 11), (.lget (vt 0) (vt 2) 0), (.lget (vt 0) (vt 2) 1), (.lget (vt 0) (vt 2) 2), (.lget (vt 0) (vt 2) 3), (.lget (vt 0) (vt 2) 4), (.lget (vt 0) (vt 2) 5), (.lget (vt 0) (vt 2) 6), (.lget (vt 0) (vt 2) 7), (vt 12), (vt 13), (vt 14), (vt 15), (vt 16), (vt 17)])
abbrev rt1T_3 : Tm := (tp [(.lget (vt 0) (vt 2) 0), (.lget (vt 0) (vt 2) 1), (.lget (vt 0) (vt 2) 2), (.lget (vt 0) (vt 2) 3), (.lget (vt 0) (vt 2) 4), (.lget (vt 0) (vt 2) 5), (.lget (vt 0) (vt 2) 6), (.lget (vt 0) (vt 2) 7)])
def rt1T : (Tree (AX × Option Eqs)) :=
 (.fork (.ib .lss .i64 (vt 2) (.llen (vt 0)))
 (.fork rt1T_0
  (.fork (.ib .lss .i64 (.llen (vt 18)) (.ci 4294967295))
   (.fork (.app 138 rt1T_1)
    (.fork (.app 208 rt1T_2)
     (.fork (.not (.beq (.app 128 rt1T_1) (.app 192 rt1T_2)))
      (.leaf (.ret, (some [(.sI, (.llen (vt 18)), (.llen (.lapp (vt 18) (.row rt1T_3)))), (.sL, (vt 18), (.lapp (vt 18) (.row rt1T_3)))])))
      (.leaf (.normal, (some [(.sI, (vt 2), (.ib .add .i64 (vt 2) (.ci 1))), (.sI, (.llen (vt 18)), (.llen (.lapp (vt 18) (.row rt1T_3)))), (.sI, (vt 3), (.app 193 rt1T_2)), (.sB, (vt 4), (.app 194 rt1T_2)), (.sI, (vt 6), (.app 196 rt1T_2)), (.sI, (vt 5), (.app 195 rt1T_2)), (.sL, (vt 18), (.lapp (vt 18) (.row rt1T_3))), (.sI, (vt 7), (.app 197 rt1T_2)), (.sB, (vt 12), (.app 202 rt1T_2)), (.sB, (vt 8), (.app 198 rt1T_2)), (.sI, (vt 13), (.app 203 rt1T_2)), (.sI, (vt 14), (.app 204 rt1T_2)), (.sI, (vt 9), (.app 199 rt1T_2)), (.sB, (vt 15), (.app 205 rt1T_2)), (.sB, (vt 10), (.app 200 rt1T_2)), (.sI, (vt 16), (.app 206 rt1T_2)), (.sI, (vt 17), (.app 207 rt1T_2)), (.sB, (vt 11), (.app 201 rt1T_2)), (.sI, (vt 3), (.app 129 rt1T_1)), (.sB, (vt 4), (.app 130 rt1T_1)), (.sI, (vt 5), (.app 131 rt1T_1)), (.sI, (vt 6), (vt 6)), (.sI, (vt 7), (.app 133 rt1T_1)), (.sB, (vt 8), (.app 134 rt1T_1)), (.sI, (vt 9), (.app 135 rt1T_1)), (.sB, (vt 10), (.app 136 rt1T_1)), (.sB, (vt 11), (.app 137 rt1T_1))]))))
     .fail)
    .fail)
   .fail)
  .fail)
 (.leaf ((.exit 0), (some [(.sI, (.llen (vt 18)), (.llen (vt 18))), (.sL, (vt 18), (vt 18))]))))
set_option maxRecDepth 100000 in
theorem rt1T_eq : evCode Try.prog (evFun Try.prog envT 1000) (fun _ => none) 1000000 (lpBody Try.prog fTj 0) T1T (outN 5 2 T1T F1T) = rt1T := by kernel_rfl
abbrev rt2A_0 : Tm := (.and (.ib .leq .i64 (.ci 0) (vt 19)) (.ib .lss .i64 (vt 19) (.llen (vt 0))))
abbrev rt2A_1 : Tm := (tp [(vt 20), (vt 21), (vt 22), (vt 23), (vt 24), (vt 25), (vt 26), (vt 27), (vt 28), (.lget (vt 0) (vt 19) 0), (.lget (vt 0) (vt 19) 1), (.lget (vt 0) (vt 19) 2), (.lget (vt 0) (vt 19) 3), (.lget (vt 0) (vt 19) 4), (.lget (vt 0) (vt 19) 5), (.lget (vt 0) (vt 19) 6), (.lget (vt 0) (vt 19) 7)])
def rt2A : (Tree (AX × Option Eqs)) :=
 (.fork (.ib .lss .i64 (vt 19) (.llen (vt 0)))
 (.fork rt2A_0
  (.fork (.app 138 rt2A_1)
   (.fork (.not (.app 128 rt2A_1))
    (.leaf (.ret, (some [])))
    (.leaf (.normal, (some [(.sI, (vt 19), (.ib .add .i64 (vt 19) (.ci 1))), (.sI, (vt 20), (.app 129 rt2A_1)), (.sB, (vt 21), (.app 130 rt2A_1)), (.sI, (vt 22), (.app 131 rt2A_1)), (.sI, (vt 23), (vt 23)), (.sI, (vt 24), (.app 133 rt2A_1)), (.sB, (vt 25), (.app 134 rt2A_1)), (.sI, (vt 26), (.app 135 rt2A_1)), (.sB, (vt 27), (.app 136 rt2A_1)), (.sB, (vt 28), (.app 137 rt2A_1))]))))
   .fail)
  .fail)
 (.leaf ((.exit 0), (some []))))
set_option maxRecDepth 100000 in
theorem rt2A_eq : evCode Try.prog (evFun Try.prog envT 1000) (fun _ => none) 1000000 (lpBody Try.prog fAj 0) T2T (outN 9 19 T2T F2A) = rt2A := by kernel_rfl
abbrev rt2B_0 : Tm := (.and (.ib .leq .i64 (.ci 0) (vt 19)) (.ib .lss .i64 (vt 19) (.llen (vt 0))))
abbrev rt2B_1 : Tm := (tp [(vt 20), (vt 21), (vt 22), (vt 23), (vt 24), (vt 25), (vt 26), (vt 27), (vt 28), (.lget (vt 0) (vt 19) 0), (.lget (vt 0) (vt 19) 1), (.lget (vt 0) (vt 19) 2), (.lget (vt 0) (vt 19) 3), (.lget (vt 0) (vt 19) 4), (.lget (vt 0) (vt 19) 5), (.lget (vt 0) (vt 19) 6), (.lget (vt 0) (vt 19) 7)])
def rt2B : (Tree (AX × Option Eqs)) :=
 (.fork (.ib .lss .i64 (vt 19) (.llen (vt 0)))
 (.fork rt2B_0
  (.fork (.app 138 rt2B_1)
   (.fork (.not (.app 128 rt2B_1))
    (.leaf (.ret, (some [(.sI, (vt 19), (vt 19))])))
    (.leaf (.normal, (some [(.sI, (vt 19), (.ib .add .i64 (vt 19) (.ci 1))), (.sI, (vt 20), (.app 129 rt2B_1)), (.sB, (vt 21), (.app 130 rt2B_1)), (.sI, (vt 22), (.app 131 rt2B_1)), (.sI, (vt 23), (vt 23)), (.sI, (vt 24), (.app 133 rt2B_1)), (.sB, (vt 25), (.app 134 rt2B_1)), (.sI, (vt 26), (.app 135 rt2B_1)), (.sB, (vt 27), (.app 136 rt2B_1)), (.sB, (vt 28), (.app 137 rt2B_1))]))))
   .fail)
  .fail)
 (.leaf ((.exit 0), none)))
set_option maxRecDepth 100000 in
theorem rt2B_eq : evCode Try.prog (evFun Try.prog envT 1000) (fun _ => none) 1000000 (lpBody Try.prog fAj 0) T2T (outN 9 19 T2T F2B) = rt2B := by kernel_rfl
abbrev rt3A_0 : Tm := (.and (.ib .leq .i64 (.ci 0) (vt 29)) (.ib .lss .i64 (vt 29) (.llen (vt 18))))
abbrev rt3A_1 : Tm := (tp [(vt 30), (vt 31), (vt 32), (vt 33), (vt 34), (vt 35), (vt 36), (vt 37), (vt 38), (.lget (vt 18) (vt 29) 0), (.lget (vt 18) (vt 29) 1), (.lget (vt 18) (vt 29) 2), (.lget (vt 18) (vt 29) 3), (.lget (vt 18) (vt 29) 4), (.lget (vt 18) (vt 29) 5), (.lget (vt 18) (vt 29) 6), (.lget (vt 18) (vt 29) 7), (vt 39), (vt 40), (vt 41), (vt 42), (vt 43), (vt 44)])
def rt3A : (Tree (AX × Option Eqs)) :=
 (.fork (.ib .lss .i64 (vt 29) (.llen (vt 18)))
 (.fork rt3A_0
  (.fork (.app 208 rt3A_1)
   (.fork (.not (.app 192 rt3A_1))
    (.leaf (.ret, (some [])))
    (.leaf (.normal, (some [(.sI, (vt 29), (.ib .add .i64 (vt 29) (.ci 1))), (.sI, (vt 30), (.app 193 rt3A_1)), (.sB, (vt 31), (.app 194 rt3A_1)), (.sI, (vt 33), (.app 196 rt3A_1)), (.sI, (vt 32), (.app 195 rt3A_1)), (.sI, (vt 34), (.app 197 rt3A_1)), (.sB, (vt 39), (.app 202 rt3A_1)), (.sB, (vt 35), (.app 198 rt3A_1)), (.sI, (vt 40), (.app 203 rt3A_1)), (.sI, (vt 41), (.app 204 rt3A_1)), (.sI, (vt 36), (.app 199 rt3A_1)), (.sB, (vt 42), (.app 205 rt3A_1)), (.sB, (vt 37), (.app 200 rt3A_1)), (.sI, (vt 43), (.app 206 rt3A_1)), (.sI, (vt 44), (.app 207 rt3A_1)), (.sB, (vt 38), (.app 201 rt3A_1))]))))
   .fail)
  .fail)
 (.leaf ((.exit 0), (some []))))
set_option maxRecDepth 100000 in
theorem rt3A_eq : evCode Try.prog (evFun Try.prog envT 1000) (fun _ => none) 1000000 (lpBody Try.prog fAr 0) T3T (outN 11 29 T3T F3A) = rt3A := by kernel_rfl
abbrev rt3B_0 : Tm := (.and (.ib .leq .i64 (.ci 0) (vt 29)) (.ib .lss .i64 (vt 29) (.llen (vt 18))))
abbrev rt3B_1 : Tm := (tp [(vt 30), (vt 31), (vt 32), (vt 33), (vt 34), (vt 35), (vt 36), (vt 37), (vt 38), (.lget (vt 18) (vt 29) 0), (.lget (vt 18) (vt 29) 1), (.lget (vt 18) (vt 29) 2), (.lget (vt 18) (vt 29) 3), (.lget (vt 18) (vt 29) 4), (.lget (vt 18) (vt 29) 5), (.lget (vt 18) (vt 29) 6), (.lget (vt 18) (vt 29) 7), (vt 39), (vt 40), (vt 41), (vt 42), (vt 43), (vt 44)])
def rt3B : (Tree (AX × Option Eqs)) :=
 (.fork (.ib .lss .i64 (vt 29) (.llen (vt 18)))
 (.fork rt3B_0
  (.fork (.app 208 rt3B_1)
   (.fork (.not (.app 192 rt3B_1))
    (.leaf (.ret, (some [(.sI, (vt 29), (vt 29))])))
    (.leaf (.normal, (some [(.sI, (vt 29), (.ib .add .i64 (vt 29) (.ci 1))), (.sI, (vt 30), (.app 193 rt3B_1)), (.sB, (vt 31), (.app 194 rt3B_1)), (.sI, (vt 33), (.app 196 rt3B_1)), (.sI, (vt 32), (.app 195 rt3B_1)), (.sI, (vt 34), (.app 197 rt3B_1)), (.sB, (vt 39), (.app 202 rt3B_1)), (.sB, (vt 35), (.app 198 rt3B_1)), (.sI, (vt 40), (.app 203 rt3B_1)), (.sI, (vt 41), (.app 204 rt3B_1)), (.sI, (vt 36), (.app 199 rt3B_1)), (.sB, (vt 42), (.app 205 rt3B_1)), (.sB, (vt 37), (.app 200 rt3B_1)), (.sI, (vt 43), (.app 206 rt3B_1)), (.sI, (vt 44), (.app 207 rt3B_1)), (.sB, (vt 38), (.app 201 rt3B_1))]))))
   .fail)
  .fail)
 (.leaf ((.exit 0), none)))
set_option maxRecDepth 100000 in
theorem rt3B_eq : evCode Try.prog (evFun Try.prog envT 1000) (fun _ => none) 1000000 (lpBody Try.prog fAr 0) T3T (outN 11 29 T3T F3B) = rt3B := by kernel_rfl
abbrev lawAt (x y : Tm) : Tree AV := .fork (.ib .gtr .i64 (.llen (vt 0)) (.ci 300)) (.leaf (.bool true)) (.fork (.and (.ib .eql .i64 (.llen (.cb false)) (.ci 0)) (.ib .eql .i64 moT noT)) (.fork (.ib .eql .i64 moT noT) (.fork (.ib .eql .i64 x y) (.leaf (.bool true)) (.leaf (.bool false))) .fail) .fail)
set_option maxRecDepth 100000 in
theorem lawA_eq : lawT g1T g2A g3A = lawAt (.llen (vt 0)) (.llen (vt 18)) := by kernel_rfl
set_option maxRecDepth 100000 in
theorem lawB_eq : lawT g1T g2B g3B = lawAt (vt 19) (vt 29) := by kernel_rfl
set_option maxRecDepth 100000 in
theorem lawD_eq : lawT dead dead dead = .fork (.ib .gtr .i64 (.llen (vt 0)) (.ci 300)) (.leaf (.bool true)) .fail := by kernel_rfl
set_option maxRecDepth 100000 in
theorem lawN_all : Tree.allT (evFun Try.prog envT 1000 fTj [iv 1, .nilSlice] heap0 fun v _ => .leaf v) = true := by kernel_rfl
end
end Go.Proofs.Ytlbkficdelepeaa.Ab
