/-
  LineOrder: what its rounds do, whatever the numbers.
  No condition: definitions; equal trees.
-/
import Derived.Test.YtnjafgigldfcdaaLoE
namespace Go.Proofs.Ytnjafgigldfcdaa.Ab
set_option linter.unusedSimpArgs false
set_option linter.unusedVariables false
open Go
set_option linter.unusedSectionVars false
noncomputable section
def eqSr' : Sr → Sr → Bool
  | .sB, .sB => true
  | .sI, .sI => true
  | .sS, .sS => true
  | .sL, .sL => true
  | _, _ => false
def eqEsQ : Eqs → Eqs → Bool
  | [], [] => true
  | (s, x, y) :: l, (s', x', y') :: l' => (eqSr' s s' && (x.eqv x' && y.eqv y')) && eqEsQ l l'
  | _, _ => false
def eqOE : Option Eqs → Option Eqs → Bool
  | none, none => true
  | some a, some b => eqEsQ a b
  | _, _ => false
def eqAX : AX → AX → Bool
  | .normal, .normal => true
  | .ret, .ret => true
  | .exit a, .exit b => Nat.beq a b
  | _, _ => false
def eqTr : Tree (AX × Option Eqs) → Tree (AX × Option Eqs) → Bool
  | .fail, .fail => true
  | .leaf a, .leaf b => eqAX a.1 b.1 && eqOE a.2 b.2
  | .fork c x y, .fork c' x' y' => c.eqv c' && (eqTr x x' && eqTr y y')
  | _, _ => false
theorem eqSr'_eq {a b : Sr} (h : eqSr' a b = true) : a = b := by cases a <;> cases b <;> first | rfl | cases h
theorem eqEsQ_eq [Rho] : ∀ {a b : Eqs}, eqEsQ a b = true → a = b
  | [], [], _ => rfl
  | [], _ :: _, h => by cases h
  | _ :: _, [], h => by cases h
  | (s, x, y) :: l, (s', x', y') :: l', h => by
    simp only [eqEsQ, Bool.and_eq_true] at h
    rw [eqSr'_eq h.1.1, Tm.eqv_eq _ _ h.1.2.1, Tm.eqv_eq _ _ h.1.2.2, eqEsQ_eq h.2]
theorem eqOE_eq [Rho] {a b : Option Eqs} (h : eqOE a b = true) : a = b := by
  cases a <;> cases b <;> simp only [eqOE] at h <;> first | rfl | (cases h; done) | (rw [eqEsQ_eq h])
theorem eqAX_eq {a b : AX} (h : eqAX a b = true) : a = b := by
  cases a <;> cases b <;> simp only [eqAX] at h <;> first | rfl | (cases h; done) | (rw [Nat.eq_of_beq_eq_true h])
theorem eqTr_eq [Rho] : ∀ {a b : Tree (AX × Option Eqs)}, eqTr a b = true → a = b
  | .fail, .fail, _ => rfl
  | .fail, .leaf _, h | .fail, .fork _ _ _, h | .leaf _, .fail, h | .leaf _, .fork _ _ _, h | .fork _ _ _, .fail, h | .fork _ _ _, .leaf _, h => by cases h
  | .leaf (a, b), .leaf (c, d), h => by
    simp only [eqTr, Bool.and_eq_true] at h
    rw [eqAX_eq h.1, eqOE_eq h.2]
  | .fork c x y, .fork c' x' y', h => by
    simp only [eqTr, Bool.and_eq_true] at h
    rw [Tm.eqv_eq _ _ h.1, eqTr_eq h.2.1, eqTr_eq h.2.2]
def rFwE (k : Nat) : (Tree (AX × Option Eqs)) :=
 (.fork (.ib .lss .i64 (.ci (k : Int)) (.llen (vt 0)))
 (.fork (.ib .gtr .i64 (.len (cellT k 1)) (.ci 100))
  (.leaf (.ret, (some [])))
  (.fork (.ib .gtr .i64 (.llen (cellT k 2)) (.ci 5))
   (.leaf (.ret, (some [])))
   (.leaf (.normal, (some [])))))
 (.leaf ((.exit 0), (some []))))
def rFwR (k : Nat) : (Tree (AX × Option Eqs)) :=
 (.fork (.ib .lss .i64 (.ci (k : Int)) (.llen (vt 0)))
 (.fork (.ib .gtr .i64 (.len (cellT k 1)) (.ci 100))
  (.leaf (.ret, (some [])))
  (.fork (.ib .gtr .i64 (.llen (cellT k 2)) (.ci 5))
   (.leaf (.ret, (some [])))
   (.leaf (.normal, (some [])))))
 (.leaf ((.exit 0), none)))
abbrev rIn_0 (k : Nat) : Tm := (.and (.ib .leq .i64 (.ci 0) (vt 6)) (.ib .lss .i64 (vt 6) (.llen (cellT k 2))))
abbrev rIn_1 (k : Nat) : Tm := (tp [(vt 7), (.lget (cellT k 2) (vt 6) 0), (.lget (cellT k 2) (vt 6) 1), (.lget (cellT k 2) (vt 6) 2), (.lget (cellT k 2) (vt 6) 3)])
def rIn (k : Nat) : (Tree (AX × Option Eqs)) :=
 (.fork (.ib .lss .i64 (.ci (k : Int)) (.llen (vt 0)))
 (.fork (.ib .lss .i64 (vt 6) (.llen (cellT k 2)))
  (.fork (rIn_0 k)
   (.fork (.app 65 (rIn_1 k))
    (.leaf (.normal, (some [(.sI, (vt 6), (.ib .add .i64 (vt 6) (.ci 1))), (.sS, (vt 7), (.app 64 (rIn_1 k)))])))
    .fail)
   .fail)
  (.leaf ((.exit 2), (some [(.sS, (.app 72 (tp [(cellT k 1), (cellT k 2)])), (vt 7))]))))
 .fail)
abbrev rMn_0 (k : Nat) : Tm := (.ib .add .i64 (.ib .rem .i64 (cellT k 0) (.ci 2)) (.ci 2))
abbrev rMn_1 (k : Nat) : Tm := (tp [(vt 1), (vt 2), (vt 3), (cellT k 1), (cellT k 2)])
abbrev rMn_2 (k : Nat) : Tm := (.len (.app 72 (tp [(cellT k 1), (cellT k 2)])))
abbrev rMn_3 (k : Nat) : Tm := (.sb .add (vt 4) (.app 72 (tp [(cellT k 1), (cellT k 2)])))
abbrev rMn_4 : Tm := (.ib .neq .i64 (.app 96 (tp [(vt 1), (vt 2), (vt 3)])) (.ib .sub .i64 (.app 96 (tp [(vt 1), (vt 2), (vt 3)])) (.ci 0)))
abbrev rMn_5 : Tm := (.ib .leq .i64 (.plus (.len (vt 5)) (.ci 0)) (.ci 9223372036854775807))
abbrev rMn_6 : Tm := (.beq (.sb .eql (.lget (vt 1) (vt 2) 0) (.cs [])) (.ib .eql .i64 (.app 96 (tp [(vt 1), (vt 2), (vt 3)])) (.ci 0)))
abbrev rMn_7 : Tm := (.app 97 (tp [(vt 1), (.plus (vt 2) (.ci 1)), (.minus (vt 3) (.ci 1))]))
abbrev rMn_8 : Tm := (.app 96 (tp [(vt 1), (.plus (vt 2) (.ci 1)), (.minus (vt 3) (.ci 1))]))
abbrev rMn_9 : Tm := (.ib .sub .i64 (.app 96 (tp [(vt 1), (vt 2), (vt 3)])) (.len (.lget (vt 1) (vt 2) 0)))
abbrev rMn_10 : Tm := (.ib .leq .i64 (.plus (.len (vt 5)) (.len (.lget (vt 1) (vt 2) 0))) (.ci 9223372036854775807))
abbrev rMn_11 (k : Nat) : Tm := (.ib .geq .i64 (cellT k 3) (.len (.lget (vt 1) (vt 2) 0)))
abbrev rMn_12 (k : Nat) : Tm := (.ib .leq .i64 (cellT k 3) (.len (.lget (vt 1) (vt 2) 0)))
abbrev rMn_13 (k : Nat) : Tm := (.sb .eql (.cut (.lget (vt 1) (vt 2) 0) (.ci 0) (cellT k 3)) (.cs []))
abbrev rMn_14 (k : Nat) : Tm := (.beq (rMn_13 k) (.ib .eql .i64 (.app 96 (tp [(vt 1), (vt 2), (vt 3)])) (.ci 0)))
abbrev rMn_15 (k : Nat) : Tm := (.cut (.lget (vt 1) (vt 2) 0) (cellT k 3) (.len (.lget (vt 1) (vt 2) 0)))
abbrev rMn_16 (k : Nat) : Tm := (.len (.cut (.lget (vt 1) (vt 2) 0) (.ci 0) (cellT k 3)))
abbrev rMn_17 (k : Nat) : Tm := (.ib .neq .i64 (.app 96 (tp [(.lput (vt 1) (vt 2) (tp [(rMn_15 k)])), (vt 2), (vt 3)])) (.ib .sub .i64 (.app 96 (tp [(vt 1), (vt 2), (vt 3)])) (rMn_16 k)))
abbrev rMn_18 (k : Nat) : Tm := (.ib .leq .i64 (.plus (.len (vt 5)) (rMn_16 k)) (.ci 9223372036854775807))
abbrev rMn_19 (k : Nat) : Tm := (.sb .add (vt 5) (.cut (.lget (vt 1) (vt 2) 0) (.ci 0) (cellT k 3)))
def rMn (k : Nat) : (Tree (AX × Option Eqs)) :=
 (.fork (.ib .lss .i64 (.ci (k : Int)) (.llen (vt 0)))
 (.fork (.ib .eql .i64 (.ib .rem .i64 (rMn_0 k) (.ci 2)) (.ci 0))
  (.fork (.app 84 (rMn_1 k))
   (.fork (.ib .neq .i64 (.app 80 (rMn_1 k)) (rMn_2 k))
    (.leaf (.ret, (some [(.sS, (vt 5), (vt 5)), (.sS, (vt 4), (vt 4)), (.sI, (vt 2), (.app 82 (rMn_1 k))), (.sI, (vt 3), (.app 83 (rMn_1 k))), (.sL, (vt 1), (.app 81 (rMn_1 k)))])))
    (.fork (.ib .leq .i64 (.plus (.len (vt 4)) (rMn_2 k)) (.ci 9223372036854775807))
     (.leaf (.normal, (some [(.sS, (vt 5), (vt 5)), (.sS, (vt 4), (rMn_3 k)), (.sI, (vt 2), (.app 82 (rMn_1 k))), (.sI, (vt 3), (.app 83 (rMn_1 k))), (.sL, (vt 1), (.app 81 (rMn_1 k)))])))
     .fail))
   .fail)
  (.fork (.app 97 (tp [(vt 1), (vt 2), (vt 3)]))
   (.fork (.ib .eql .i64 (vt 3) (.ci 0))
    (.fork (.ib .neq .i64 (.app 96 (tp [(vt 1), (vt 2), (vt 3)])) (.ci 0))
     (.leaf (.ret, (some [(.sS, (vt 5), (vt 5)), (.sS, (vt 4), (vt 4)), (.sI, (vt 2), (vt 2)), (.sI, (vt 3), (vt 3)), (.sL, (vt 1), (vt 1))])))
     (.fork rMn_4
      (.leaf (.ret, (some [(.sS, (vt 5), (vt 5)), (.sS, (vt 4), (vt 4)), (.sI, (vt 2), (vt 2)), (.sI, (vt 3), (vt 3)), (.sL, (vt 1), (vt 1))])))
      (.fork rMn_5
       (.leaf (.normal, (some [(.sS, (vt 5), (.sb .add (vt 5) (.cs []))), (.sS, (vt 4), (vt 4)), (.sI, (vt 2), (vt 2)), (.sI, (vt 3), (vt 3)), (.sL, (vt 1), (vt 1))])))
       .fail)))
    (.fork (.ib .lss .i64 (.ci 0) (vt 3))
     (.fork (.ib .lss .i64 (cellT k 3) (.ci 1))
      (.fork (.ib .leq .i64 (.ci 1) (vt 3))
       (.fork (.not rMn_6)
        (.leaf (.ret, (some [(.sS, (vt 5), (vt 5)), (.sS, (vt 4), (vt 4)), (.sI, (vt 2), (.plus (vt 2) (.ci 1))), (.sI, (vt 3), (.minus (vt 3) (.ci 1))), (.sL, (vt 1), (vt 1))])))
        (.fork rMn_7
         (.fork (.ib .neq .i64 rMn_8 rMn_9)
          (.leaf (.ret, (some [(.sS, (vt 5), (vt 5)), (.sS, (vt 4), (vt 4)), (.sI, (vt 2), (.plus (vt 2) (.ci 1))), (.sI, (vt 3), (.minus (vt 3) (.ci 1))), (.sL, (vt 1), (vt 1))])))
          (.fork rMn_10
           (.leaf (.normal, (some [(.sS, (vt 5), (.sb .add (vt 5) (.lget (vt 1) (vt 2) 0))), (.sS, (vt 4), (vt 4)), (.sI, (vt 2), (.plus (vt 2) (.ci 1))), (.sI, (vt 3), (.minus (vt 3) (.ci 1))), (.sL, (vt 1), (vt 1))])))
           .fail))
         .fail))
       .fail)
      (.fork (rMn_11 k)
       (.fork (.ib .leq .i64 (.ci 1) (vt 3))
        (.fork (.not rMn_6)
         (.leaf (.ret, (some [(.sS, (vt 5), (vt 5)), (.sS, (vt 4), (vt 4)), (.sI, (vt 2), (.plus (vt 2) (.ci 1))), (.sI, (vt 3), (.minus (vt 3) (.ci 1))), (.sL, (vt 1), (vt 1))])))
         (.fork rMn_7
          (.fork (.ib .neq .i64 rMn_8 rMn_9)
           (.leaf (.ret, (some [(.sS, (vt 5), (vt 5)), (.sS, (vt 4), (vt 4)), (.sI, (vt 2), (.plus (vt 2) (.ci 1))), (.sI, (vt 3), (.minus (vt 3) (.ci 1))), (.sL, (vt 1), (vt 1))])))
           (.fork rMn_10
            (.leaf (.normal, (some [(.sS, (vt 5), (.sb .add (vt 5) (.lget (vt 1) (vt 2) 0))), (.sS, (vt 4), (vt 4)), (.sI, (vt 2), (.plus (vt 2) (.ci 1))), (.sI, (vt 3), (.minus (vt 3) (.ci 1))), (.sL, (vt 1), (vt 1))])))
            .fail))
          .fail))
        .fail)
       (.fork (.and (.ib .leq .i64 (.ci 0) (cellT k 3)) (rMn_12 k))
        (.fork (.not (rMn_14 k))
         (.leaf (.ret, (some [(.sS, (vt 5), (vt 5)), (.sS, (vt 4), (vt 4)), (.sI, (vt 2), (vt 2)), (.sI, (vt 3), (vt 3)), (.sL, (vt 1), (.lput (vt 1) (vt 2) (tp [(rMn_15 k)])))])))
         (.fork (.app 97 (tp [(.lput (vt 1) (vt 2) (tp [(rMn_15 k)])), (vt 2), (vt 3)]))
          (.fork (rMn_17 k)
           (.leaf (.ret, (some [(.sS, (vt 5), (vt 5)), (.sS, (vt 4), (vt 4)), (.sI, (vt 2), (vt 2)), (.sI, (vt 3), (vt 3)), (.sL, (vt 1), (.lput (vt 1) (vt 2) (tp [(rMn_15 k)])))])))
           (.fork (rMn_18 k)
            (.leaf (.normal, (some [(.sS, (vt 5), (rMn_19 k)), (.sS, (vt 4), (vt 4)), (.sI, (vt 2), (vt 2)), (.sI, (vt 3), (vt 3)), (.sL, (vt 1), (.lput (vt 1) (vt 2) (tp [(rMn_15 k)])))])))
            .fail))
          .fail))
        .fail)))
     .fail))
   .fail))
 (.leaf ((.exit 0), (some [(.sS, (vt 5), (vt 5)), (.sS, (vt 4), (vt 4)), (.sI, (vt 2), (vt 2)), (.sI, (vt 3), (vt 3)), (.sL, (vt 1), (vt 1))]))))
abbrev rEn_0 : Tm := (.ib .leq .i64 (.plus (.len (vt 13)) (.ci 0)) (.ci 9223372036854775807))
abbrev rEn_1 : Tm := (.ib .leq .i64 (.plus (.len (vt 13)) (.len (.lget (vt 10) (vt 11) 0))) (.ci 9223372036854775807))
def rEn : (Tree (AX × Option Eqs)) :=
 (.fork (.ib .lss .i64 (vt 9) (.ci 3000))
 (.fork (.ib .gtr .i64 (vt 12) (.ci 0))
  (.fork (.ib .eql .i64 (vt 12) (.ci 0))
   (.fork rEn_0
    (.leaf (.normal, (some [(.sI, (vt 9), (.ib .add .i64 (vt 9) (.ci 1))), (.sS, (vt 13), (.sb .add (vt 13) (.cs []))), (.sI, (vt 11), (vt 11)), (.sI, (vt 12), (vt 12)), (.sL, (vt 10), (vt 10))])))
    .fail)
   (.fork (.ib .lss .i64 (.ci 0) (vt 12))
    (.fork (.ib .leq .i64 (.ci 1) (vt 12))
     (.fork rEn_1
      (.leaf (.normal, (some [(.sI, (vt 9), (.ib .add .i64 (vt 9) (.ci 1))), (.sS, (vt 13), (.sb .add (vt 13) (.lget (vt 10) (vt 11) 0))), (.sI, (vt 11), (.plus (vt 11) (.ci 1))), (.sI, (vt 12), (.minus (vt 12) (.ci 1))), (.sL, (vt 10), (vt 10))])))
      .fail)
     .fail)
    .fail))
  (.leaf ((.exit 4), (some [(.sS, (vt 13), (vt 13)), (.sI, (vt 11), (vt 11)), (.sI, (vt 12), (vt 12)), (.sL, (vt 10), (vt 10))]))))
 (.leaf ((.exit 4), (some [(.sS, (vt 13), (vt 13)), (.sI, (vt 11), (vt 11)), (.sI, (vt 12), (vt 12)), (.sL, (vt 10), (vt 10))]))))
/-- Does it leave there, where the place is not below? -/
def exB (x : AX) (es : Eqs) (k : Nat) : Tree (AX × Option Eqs) → Bool
  | .fork c _ (.leaf (y, some fs)) => c.eqv (.ib .lss .i64 (.ci (k : Int)) (.llen (vt 0))) && (eqAX y x && eqEsQ fs es)
  | _ => false
theorem exB_sel {ρ : Rho} {x : AX} {es : Eqs} {k : Nat} {t : Tree (AX × Option Eqs)} (h : exB x es k t = true) (hk : ¬ (k : Int) < ((ρ.val 0).asL.length : Int)) : @Tree.sel _ ρ t = some (x, some es) := by
  letI := ρ
  unfold exB at h
  split at h
  · rename_i c _ y fs
    simp only [Bool.and_eq_true] at h
    rw [Tm.eqv_eq _ _ h.1, eqAX_eq h.2.1, eqEsQ_eq h.2.2]
    rw [sel_F (by show decide ((k : Int) < ((ρ.val 0).asL.length : Int)) = false; exact decide_eq_false hk)]
    rfl
  · cases h
def esMn : Eqs := [(.sS, (vt 5), (vt 5)), (.sS, (vt 4), (vt 4)), (.sI, (vt 2), (vt 2)), (.sI, (vt 3), (vt 3)), (.sL, (vt 1), (vt 1))]
set_option maxRecDepth 100000 in
theorem fwE_chk : ((List.range 40).all fun k => eqTr (rtFwE k) (rFwE k)) = true := by kernel_rfl
set_option maxRecDepth 100000 in
theorem fwR_chk : ((List.range 40).all fun k => eqTr (rtFwR k) (rFwR k)) = true := by kernel_rfl
set_option maxRecDepth 100000 in
theorem fwX_chk : ((List.range 41).all fun k => exB (.exit 0) [] k (rtFwE k)) = true := by kernel_rfl
set_option maxRecDepth 100000 in
theorem in_chk : ((List.range 40).all fun k => eqTr (rtIn k) (rIn k)) = true := by kernel_rfl
set_option maxRecDepth 100000 in
theorem mn_chk : ((List.range 40).all fun k => eqTr (rtMn k) (rMn k)) = true := by kernel_rfl
set_option maxRecDepth 100000 in
theorem mnX_chk : ((List.range 41).all fun k => exB (.exit 0) esMn k (rtMn k)) = true := by kernel_rfl
set_option maxRecDepth 100000 in
theorem en_chk : eqTr rtEn rEn = true := by kernel_rfl
def lawE : Tree AV :=
 (.fork (.ib .gtr .i64 (.llen (vt 0)) (.ci 40))
 (.leaf (.bool true))
 (.fork (.sb .eql (vt 13) (vt 4))
  (.fork (.app 97 (tp [(vt 10), (vt 11), (vt 12)]))
   (.fork (.ib .eql .i64 (.app 96 (tp [(vt 10), (vt 11), (vt 12)])) (.ci 0))
    (.leaf (.bool true))
    (.leaf (.bool false)))
   .fail)
  (.leaf (.bool false))))
def lawR : Tree AV :=
 (.fork (.ib .gtr .i64 (.llen (vt 0)) (.ci 40))
 (.leaf (.bool true))
 (.leaf (.bool true)))
set_option maxRecDepth 100000 in
theorem lawE_eq : lawT gFwE = lawE := by kernel_rfl
set_option maxRecDepth 100000 in
theorem lawR_eq : lawT gFwR = lawR := by kernel_rfl
end
end Go.Proofs.Ytnjafgigldfcdaa.Ab
