/-
  LineOrder: Apply, which is what its own tree says: no more than 255 bytes longer.
  Conditions: as each theorem tells.
-/
import Derived.Test.YtnjafgigldfcdaaLoA
import Derived.Test.YtnjafgigldfcdaaAut
namespace Go.Proofs.Ytnjafgigldfcdaa.Ab
set_option linter.unusedSimpArgs false
set_option linter.unusedVariables false
open Go
set_option linter.unusedSectionVars false
set_option linter.unusedSimpArgs false
noncomputable section
abbrev tApply_0 : Tm := (.ib .gtr .i64 (.ite (.ib .lss .i64 (.len (vt 0)) (vt 2)) (.len (vt 0)) (vt 2)) (.ci 0))
def tApply_1 : Tm := (.ite tApply_0 (.ite (.ib .lss .i64 (.len (vt 0)) (vt 2)) (.len (vt 0)) (vt 2)) (.ci 0))
abbrev tApply_2 : Tm := (.and (.ib .leq .i64 (.ci 0) tApply_1) (.ib .leq .i64 tApply_1 (.len (vt 0))))
abbrev tApply_3 : Tm := (.plus (.len (.cut (vt 0) (.ci 0) tApply_1)) (.len (.cut (vt 0) tApply_1 (.len (vt 0)))))
abbrev tApply_4 : Tm := (.sb .add (.cut (vt 0) (.ci 0) tApply_1) (.cut (vt 0) tApply_1 (.len (vt 0))))
abbrev tApply_5 : Tm := (.ib .gtr .i64 (.ite (.ib .lss .i64 (.ci 255) (vt 4)) (.ci 255) (vt 4)) (.ci 0))
def tApply_6 : Tm := (.ite tApply_5 (.ite (.ib .lss .i64 (.ci 255) (vt 4)) (.ci 255) (vt 4)) (.ci 0))
def tApply_7 : Tm := (.ite (.ib .lss .i64 (.len (.cut (vt 0) tApply_1 (.len (vt 0)))) tApply_6) (.len (.cut (vt 0) tApply_1 (.len (vt 0)))) tApply_6)
abbrev tApply_8 : Tm := (.and (.ib .leq .i64 (.ci 0) tApply_7) (.ib .leq .i64 tApply_7 (.len (.cut (vt 0) tApply_1 (.len (vt 0))))))
abbrev tApply_9 : Tm := (.cut (.cut (vt 0) tApply_1 (.len (vt 0))) tApply_7 (.len (.cut (vt 0) tApply_1 (.len (vt 0)))))
abbrev tApply_10 : Tm := (.ib .leq .i64 (.plus (.len (.cut (vt 0) (.ci 0) tApply_1)) (.len tApply_9)) (.ci 9223372036854775807))
abbrev tApply_11 : Tm := (.ib .xor .u8 (.at (.cut (vt 0) tApply_1 (.len (vt 0))) (.ci 0)) (vt 3))
abbrev tApply_12 : Tm := (.plus (.len (.cut (vt 0) (.ci 0) tApply_1)) (.len (.sb .add (.oct tApply_11) (.cs []))))
abbrev tApply_13 : Tm := (.sb .add (.cut (vt 0) (.ci 0) tApply_1) (.sb .add (.oct tApply_11) (.cs [])))
abbrev tApply_14 : Tm := (.cut (.cut (vt 0) tApply_1 (.len (vt 0))) (.ci 1) (.len (.cut (vt 0) tApply_1 (.len (vt 0)))))
abbrev tApply_15 : Tm := (.ib .leq .i64 (.plus (.len tApply_13) (.len tApply_14)) (.ci 9223372036854775807))
abbrev tApply_16 : Tm := (.and (.ib .leq .i64 tApply_6 (.ci 1000)) (.ib .leq .i64 (.len (.sb .add (.oct (vt 3)) (.cs []))) (.ci 1000)))
abbrev tApply_17 : Tm := (.pair (.sb .add (.oct (vt 3)) (.cs [])) (.ite tApply_5 (.ite (.ib .lss .i64 (.ci 255) (vt 4)) (.ci 255) (vt 4)) (.ci 0)))
abbrev tApply_18 : Tm := (.plus (.len (.cut (vt 0) (.ci 0) tApply_1)) (.len (.app 8 tApply_17)))
abbrev tApply_19 : Tm := (.plus (.len (.sb .add (.cut (vt 0) (.ci 0) tApply_1) (.app 8 tApply_17))) (.len (.cut (vt 0) tApply_1 (.len (vt 0)))))
abbrev tApply_20 : Tm := (.sb .add (.sb .add (.cut (vt 0) (.ci 0) tApply_1) (.app 8 tApply_17)) (.cut (vt 0) tApply_1 (.len (vt 0))))
def tKinds : (Tree (Option Eqs)) :=
 (.fork (.ib .eql .i64 (vt 1) (.ci 0))
   (.fork tApply_2
    (.fork (.ib .leq .i64 tApply_3 (.ci 9223372036854775807))
     (.leaf (some [(.sS, (vt 5), tApply_4)]))
     .fail)
    .fail)
   (.fork (.ib .eql .i64 (vt 1) (.ci 1))
    (.fork tApply_2
     (.fork tApply_8
      (.fork tApply_10
       (.leaf (some [(.sS, (vt 5), (.sb .add (.cut (vt 0) (.ci 0) tApply_1) tApply_9))]))
       .fail)
      .fail)
     .fail)
    (.fork (.ib .eql .i64 (vt 1) (.ci 2))
     (.fork tApply_2
      (.fork (.ib .lss .i64 (.ci 0) (.len (.cut (vt 0) tApply_1 (.len (vt 0)))))
       (.fork (.ib .leq .i64 tApply_12 (.ci 9223372036854775807))
        (.fork (.ib .leq .i64 (.ci 1) (.len (.cut (vt 0) tApply_1 (.len (vt 0)))))
         (.fork tApply_15
          (.leaf (some [(.sS, (vt 5), (.sb .add tApply_13 tApply_14))]))
          .fail)
         .fail)
        .fail)
       .fail)
      .fail)
     (.fork (.ib .eql .i64 (vt 1) (.ci 3))
      (.fork tApply_2
       (.fork (.and (.ib .leq .i64 (.ci 0) tApply_6) tApply_16)
        (.fork (.ib .leq .i64 tApply_18 (.ci 9223372036854775807))
         (.fork (.ib .leq .i64 tApply_19 (.ci 9223372036854775807))
          (.leaf (some [(.sS, (vt 5), tApply_20)]))
          .fail)
         .fail)
        .fail)
       .fail)
      (.fork (.ib .eql .i64 (vt 1) (.ci 4))
       (.fork tApply_2
        (.leaf (some [(.sS, (vt 5), (.cs []))]))
        .fail)
       .fail)))))
def tApply : (Tree (Option Eqs)) :=
 (.fork (.ib .gtr .u8 (vt 1) (.ci 4))
 (.leaf (some [(.sS, (vt 5), (vt 0))]))
 (.fork (.ib .neq .u8 (vt 1) (.ci 4))
  (.fork (.ib .lss .i64 (vt 2) (.ci 0))
   (.leaf (some [(.sS, (vt 5), (vt 0))]))
   (.fork (.ib .gtr .i64 (vt 2) (.len (vt 0)))
    (.leaf (some [(.sS, (vt 5), (vt 0))]))
    (.fork (.ib .eql .i64 (vt 2) (.len (vt 0)))
     (.fork (.ib .neq .u8 (vt 1) (.ci 3))
      (.leaf (some [(.sS, (vt 5), (vt 0))]))
      tKinds)
     tKinds)))
  tKinds))
set_option maxRecDepth 100000 in
theorem tApply_eq : SApply.tree Try.prog envRp fApply = tApply := by kernel_rfl
theorem cutS_len (s : List UInt8) (a b : Int) : (cutS s a b).length = min (b.toNat - a.toNat) (s.length - a.toNat) := by
  simp [cutS]
theorem repeatL_len (l : List UInt8) : ∀ n : Nat, (Lib.repeatL l n).length = n * l.length := fun n => by
  induction n with
  | zero => simp [Lib.repeatL]
  | succ n ih => simp [Lib.repeatL, Nat.add_mul] at *; omega
section
variable {ρ : Rho}
theorem d_iteI (c x y : Tm) : (@Tm.den ρ (.ite c x y)).asI = bif (@Tm.den ρ c).asB then (@Tm.den ρ x).asI else (@Tm.den ρ y).asI := by
  rw [d_ite]; cases (@Tm.den ρ c).asB <;> rfl
theorem d_minT (k : IntKind) (x y : Tm) : (@Tm.den ρ (.ite (.ib .lss k x y) x y)).asI = min (@Tm.den ρ x).asI (@Tm.den ρ y).asI := by
  rw [d_iteI]
  show (bif decide ((@Tm.den ρ x).asI < (@Tm.den ρ y).asI) then _ else _) = _
  by_cases h : (@Tm.den ρ x).asI < (@Tm.den ρ y).asI
  · rw [decide_eq_true h, cond_true]; omega
  · rw [decide_eq_false h, cond_false]; omega
theorem d_maxT (k : IntKind) (x y : Tm) : (@Tm.den ρ (.ite (.ib .gtr k x y) x y)).asI = max (@Tm.den ρ x).asI (@Tm.den ρ y).asI := by
  rw [d_iteI]
  show (bif decide ((@Tm.den ρ x).asI > (@Tm.den ρ y).asI) then _ else _) = _
  by_cases h : (@Tm.den ρ x).asI > (@Tm.den ρ y).asI
  · rw [decide_eq_true h, cond_true]; omega
  · rw [decide_eq_false h, cond_false]; omega
theorem app1_facts : 0 ≤ (@Tm.den ρ tApply_1).asI ∧ (@Tm.den ρ tApply_1).asI ≤ ((ρ.val 0).asS.length : Int) ∧ ((ρ.val 2).asI ≤ ((ρ.val 0).asS.length : Int) → 0 ≤ (ρ.val 2).asI → (@Tm.den ρ tApply_1).asI = (ρ.val 2).asI) := by
  have e : (@Tm.den ρ tApply_1).asI = max (min ((ρ.val 0).asS.length : Int) (ρ.val 2).asI) 0 := by
    unfold tApply_1
    rw [d_maxT, d_minT]; rfl
  rw [e]
  omega
theorem app6_facts : 0 ≤ (@Tm.den ρ tApply_6).asI ∧ (@Tm.den ρ tApply_6).asI ≤ 255 := by
  have e : (@Tm.den ρ tApply_6).asI = max (min 255 (ρ.val 4).asI) 0 := by
    unfold tApply_6
    rw [d_maxT, d_minT]; rfl
  rw [e]
  omega
theorem app7_facts : 0 ≤ (@Tm.den ρ tApply_7).asI ∧ (@Tm.den ρ tApply_7).asI ≤ ((@Tm.den ρ (.cut (vt 0) tApply_1 (.len (vt 0)))).asS.length : Int) := by
  have := @app6_facts ρ
  have e : (@Tm.den ρ tApply_7).asI = min ((@Tm.den ρ (.cut (vt 0) tApply_1 (.len (vt 0)))).asS.length : Int) (@Tm.den ρ tApply_6).asI := by
    unfold tApply_7
    rw [d_minT]; rfl
  rw [e]
  omega
theorem app17_len (hf : ∀ d, ρ.fn 8 d = fn8 d) : (@Tm.den ρ (.app 8 tApply_17)).asS.length ≤ 255 := by
  rw [d_app, hf]
  show (Lib.repeatL _ ((@Tm.den ρ tApply_6).asI).toNat).length ≤ 255
  rw [repeatL_len]
  have := @app6_facts ρ
  show _ * ([_] ++ []).length ≤ 255
  simp; omega
abbrev QAp (ρ : Rho) (es : Eqs) : Prop := ∃ t, es = [(.sS, (vt 5), t)] ∧ (@Tm.den ρ t).asS.length ≤ (ρ.val 0).asS.length + 255
theorem kinds_sel (hf : ∀ d, ρ.fn 8 d = fn8 d) (hL : (ρ.val 0).asS.length ≤ 100000) (k0 : 0 ≤ (ρ.val 1).asI) (k4 : (ρ.val 1).asI ≤ 4) (h2 : (ρ.val 1).asI = 2 → (@Tm.den ρ tApply_1).asI < ((ρ.val 0).asS.length : Int)) : ∃ es, @Tree.sel _ ρ tKinds = some (some es) ∧ QAp ρ es := by
  obtain ⟨x0, x1, _⟩ := @app1_facts ρ
  obtain ⟨y0, y1⟩ := @app6_facts ρ
  have z := app17_len hf
  obtain ⟨u0, u1⟩ := @app7_facts ρ
  unfold tKinds
  repeat' (first | refine sel_fork (fun h => ?_) (fun h => ?_))
  all_goals (simp only [eql_t, eql_f, lss_t, lss_f, leq_t, leq_f, and_t, and_f, d_plus, d_len, d_sadd, d_cut, d_oct, List.length_append, cutS_len, List.length_cons, List.length_nil, d_ci, d_cs, show (@Tm.den ρ (vt 1)).asI = (ρ.val 1).asI from rfl, show (@Tm.den ρ (vt 0)).asS = (ρ.val 0).asS from rfl] at *)
  all_goals first
    | (exfalso; omega)
    | (refine ⟨_, rfl, _, rfl, ?_⟩
       simp only [d_sadd, d_cut, d_oct, List.length_append, cutS_len, List.length_cons, List.length_nil, d_cs, show (@Tm.den ρ (vt 0)).asS = (ρ.val 0).asS from rfl]
       omega)
end
end
end Go.Proofs.Ytnjafgigldfcdaa.Ab
