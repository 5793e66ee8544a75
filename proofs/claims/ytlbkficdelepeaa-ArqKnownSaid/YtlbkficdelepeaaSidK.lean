/-
  The document's side of chapter 15: what an N(R) means, a loop.
  Conditions: as each theorem tells.
-/
import Derived.Test.YtlbkficdelepeaaSidP
import Derived.Test.YtlbkficdelepeaaLpg
namespace Go.Proofs.Ytlbkficdelepeaa.Ab
set_option linter.unusedSimpArgs false
set_option linter.unusedVariables false
open Go
noncomputable section
def HK : Heap := ⟨2, poS, [], []⟩
def TK : St := ⟨26, [(6, iv 23), (0, .ptr 0 0), (1, uv 22)], HK, []⟩
def FK1 : St := ⟨26, [(4, .sint .i64 (.app 1600 (tp [vt 6, vt 8, vt 22]))), (5, .bool true)], HK, []⟩
def FK0 : St := ⟨26, [], HK, []⟩
def sK (i : Nat) : Option Tm := bif Nat.beq i 23 then some (vt 6) else none
def gK1 : LpG := loopN 2 23 TK FK1 sK .ret
def gK0 : LpG := loopN 2 23 TK FK0 sK (.exit 0)
abbrev fK : FuncId := 102
def envK (g : LpG) : Env := ⟨fun _ => none, lpOne fK 2 g⟩
abbrev rtK1_0 : Tm := (.ib .eql .i64 (.ib .rem .i64 (vt 23) (.ci 8)) (.wrap .i64 (.ib .rem .u8 (vt 22) (.ci 8))))
def rtK1 : (Tree (AX × Option Eqs)) :=
 (.fork (.ib .leq .i64 (vt 23) (vt 8))
 (.fork rtK1_0
  (.leaf (.ret, (some [(.sI, (.app 1600 (tp [(vt 6), (vt 8), (vt 22)])), (vt 23))])))
  (.leaf (.normal, (some [(.sI, (vt 23), (.ib .add .i64 (vt 23) (.ci 1)))]))))
 (.leaf ((.exit 0), none)))
set_option maxRecDepth 100000 in
theorem rtK1_eq : evCode Try.prog (evFun Try.prog none0 1000) (fun _ => none) 1000000 (lpBody Try.prog fK 0) TK (outN 2 23 TK FK1) = rtK1 := by kernel_rfl
abbrev rtK0_0 : Tm := (.ib .eql .i64 (.ib .rem .i64 (vt 23) (.ci 8)) (.wrap .i64 (.ib .rem .u8 (vt 22) (.ci 8))))
def rtK0 : (Tree (AX × Option Eqs)) :=
 (.fork (.ib .leq .i64 (vt 23) (vt 8))
 (.fork rtK0_0
  (.leaf (.ret, (some [])))
  (.leaf (.normal, (some [(.sI, (vt 23), (.ib .add .i64 (vt 23) (.ci 1)))]))))
 (.leaf ((.exit 0), (some []))))
set_option maxRecDepth 100000 in
theorem rtK0_eq : evCode Try.prog (evFun Try.prog none0 1000) (fun _ => none) 1000000 (lpBody Try.prog fK 0) TK (outN 2 23 TK FK0) = rtK0 := by kernel_rfl
def tAckn1 : (Tree (Option Eqs)) :=
 (.leaf (some [(.sI, (vt 23), (.app 1600 (tp [(vt 6), (vt 8), (vt 22)]))), (.sB, (vt 24), (.cb true))]))
set_option maxRecDepth 100000 in
theorem tAckn1_eq : SAckn.tree Try.prog (envK gK1) fK = tAckn1 := by kernel_rfl
def tAckn0 : (Tree (Option Eqs)) :=
 (.leaf (some [(.sI, (vt 23), (.ci 0)), (.sB, (vt 24), (.cb false))]))
set_option maxRecDepth 100000 in
theorem tAckn0_eq : SAckn.tree Try.prog (envK gK0) fK = tAckn0 := by kernel_rfl
set_option maxRecDepth 100000 in
theorem keyK : keyAt Try.prog fK 2 0 = true := by kernel_rfl
abbrev rhoS (ρ : Rho) (d : Dat) : Rho := ⟨fun i => bif Nat.beq i 23 then d else ρ.val i, ρ.fn⟩
theorem rhoS_low (ρ : Rho) (d : Dat) : Low 23 (rhoS ρ d) ρ := ⟨fun i hi => by
  show (bif Nat.beq i 23 then _ else _) = _
  rw [show Nat.beq i 23 = false from by
    cases h : Nat.beq i 23 with
    | false => rfl
    | true => have := Nat.eq_of_beq_eq_true h; omega]
  rfl, rfl⟩
section
variable {ρ : Rho} {d : Dat} {x : Int}
theorem c1_t (hd : d.asI = x) (hx : x ≤ (ρ.val 8).asI) : (@Tm.den (rhoS ρ d) (.ib .leq .i64 (vt 23) (vt 8))).asB = true := by
  rw [leq_t]
  show d.asI ≤ _ ∧ _
  rw [hd]
  exact ⟨hx, fun h => Int.not_lt.2 hx (hd ▸ h)⟩
theorem c1_f (hd : d.asI = x) (hx : (ρ.val 8).asI < x) : (@Tm.den (rhoS ρ d) (.ib .leq .i64 (vt 23) (vt 8))).asB = false := by
  rw [leq_f]
  show (ρ.val 8).asI < d.asI ∧ ¬ d.asI ≤ (ρ.val 8).asI
  rw [hd]; exact ⟨hx, Int.not_le.2 hx⟩
theorem c2_t (hd : d.asI = x) (h0 : 0 ≤ x) (r0 : 0 ≤ (ρ.val 22).asI) (r1 : (ρ.val 22).asI ≤ 255) (he : x % 8 = (ρ.val 22).asI % 8) : (@Tm.den (rhoS ρ d) rtK1_0).asB = true := by
  rw [eql_t]
  show d.asI.tmod 8 = IntKind.i64.wrap ((ρ.val 22).asI.tmod 8)
  rw [hd, tmod8 h0, tmod8 r0, i64wrap (by omega) (by omega)]
  exact he
theorem c2_f (hd : d.asI = x) (h0 : 0 ≤ x) (r0 : 0 ≤ (ρ.val 22).asI) (r1 : (ρ.val 22).asI ≤ 255) (he : ¬ x % 8 = (ρ.val 22).asI % 8) : (@Tm.den (rhoS ρ d) rtK1_0).asB = false := by
  rw [eql_f]
  show ¬ d.asI.tmod 8 = IntKind.i64.wrap ((ρ.val 22).asI.tmod 8)
  rw [hd, tmod8 h0, tmod8 r0, i64wrap (by omega) (by omega)]
  exact he
theorem stepE (hd : d.asI = x) (h0 : 0 ≤ x) (h1 : x ≤ 100000) : EqsOk (rhoS ρ (.dI (x + 1))) (rhoS ρ d) [(.sI, vt 23, .ib .add .i64 (vt 23) (.ci 1))] := by
  refine ⟨?_, trivial⟩
  show x + 1 = IntKind.i64.wrap (d.asI + 1)
  rw [hd, i64wrap (by omega) (by omega)]
end
/-- The n-th number that is tried. -/
def dK (ρ : Rho) (k : Nat) : Dat := if k = 0 then ρ.val 6 else .dI ((ρ.val 6).asI + k)
theorem dK_asI (ρ : Rho) (k : Nat) : (dK ρ k).asI = (ρ.val 6).asI + k := by
  unfold dK
  split
  · subst k; simp
  · rfl
theorem dK_succ (ρ : Rho) (k : Nat) : dK ρ (k + 1) = .dI ((ρ.val 6).asI + k + 1) := by
  show (if k + 1 = 0 then _ else Dat.dI ((ρ.val 6).asI + ((k + 1 : Nat) : Int))) = _
  rw [if_neg (by omega)]
  congr 1
  omega
theorem sK_ok (ρ : Rho) (n : Nat) : (rhoS ρ (dK ρ 0)).val n = match sK n with
      | some t => @Tm.den ρ t
      | none => ρ.val n := by
  show (bif Nat.beq n 23 then _ else _) = _
  unfold sK
  cases Nat.beq n 23 with
  | true => rfl
  | false => rfl
theorem none_ok {ρ : Rho} : ∀ k : Nat, @CfOK (rhoS ρ (dK ρ k)) (AX × Option Eqs) Try.prog (evFun Try.prog none0 1000) := fun k => by letI : Rho := rhoS ρ (dK ρ k); exact evFun_ok noCount none0_ok 1000
theorem gK1_ok {ρ : Rho} (hf : ρ.fn = fnOf mSid) (h0 : 0 ≤ (ρ.val 6).asI) (h1 : (ρ.val 8).asI ≤ 100000) (r0 : 0 ≤ (ρ.val 22).asI) (r1 : (ρ.val 22).asI ≤ 255) (hw : way8 (ρ.val 6).asI (ρ.val 22).asI ≤ (ρ.val 8).asI - (ρ.val 6).asI) : GOk ρ fK 0 gK1 := by
  have hw0 : 0 ≤ way8 (ρ.val 6).asI (ρ.val 22).asI := by unfold way8; omega
  have hN : (((way8 (ρ.val 6).asI (ρ.val 22).asI).toNat : Nat) : Int) = way8 (ρ.val 6).asI (ρ.val 22).asI := by omega
  refine loopN_ok noCount ρ (fun k => rhoS ρ (dK ρ k)) (way8 (ρ.val 6).asI (ρ.val 22).asI).toNat (fuel := 1000000) (cf := evFun Try.prog none0 1000) (lf := fun _ => none) (by simp) rfl
    (fun k _ => none_ok k) (fun k _ => by letI : Rho := rhoS ρ (dK ρ k); exact lf0_ok) (fun k _ => rhoS_low ρ _) (fun k hk => ?_) ?_ (sK_ok ρ)
  · rw [rtK1_eq, dK_succ]
    unfold rtK1
    have hd := dK_asI ρ k
    rw [sel_T (c1_t hd (by omega)), sel_F (c2_f hd (by omega) r0 r1 (by unfold way8 at *; omega))]
    exact ⟨_, rfl, stepE hd (by omega) (by omega)⟩
  · rw [rtK1_eq]
    unfold rtK1
    have hd := dK_asI ρ (way8 (ρ.val 6).asI (ρ.val 22).asI).toNat
    rw [sel_T (c1_t hd (by omega)), sel_T (c2_t hd (by omega) r0 r1 (by rw [hN]; unfold way8; omega))]
    refine ⟨_, rfl, ?_, trivial⟩
    show (@Tm.den ρ (.app 1600 (tp [vt 6, vt 8, vt 22]))).asI = (dK ρ _).asI
    rw [hd, hN, d_app, hf]
    show (ackn (ρ.val 6).asI (ρ.val 8).asI (ρ.val 22).asI).1 = _
    unfold ackn
    rw [if_pos hw]
theorem gK0_ok {ρ : Rho} (h0 : 0 ≤ (ρ.val 6).asI) (h1 : (ρ.val 8).asI ≤ 100000) (r0 : 0 ≤ (ρ.val 22).asI) (r1 : (ρ.val 22).asI ≤ 255) (hw : ¬ way8 (ρ.val 6).asI (ρ.val 22).asI ≤ (ρ.val 8).asI - (ρ.val 6).asI) : GOk ρ fK 0 gK0 := by
  refine loopN_ok noCount ρ (fun k => rhoS ρ (dK ρ k)) ((ρ.val 8).asI + 1 - (ρ.val 6).asI).toNat (fuel := 1000000) (cf := evFun Try.prog none0 1000) (lf := fun _ => none) (by simp) rfl
    (fun k _ => none_ok k) (fun k _ => by letI : Rho := rhoS ρ (dK ρ k); exact lf0_ok) (fun k _ => rhoS_low ρ _) (fun k hk => ?_) ?_ (sK_ok ρ)
  · rw [rtK0_eq, dK_succ]
    unfold rtK0
    have hd := dK_asI ρ k
    rw [sel_T (c1_t hd (by omega)), show rtK0_0 = rtK1_0 from rfl, sel_F (c2_f hd (by omega) r0 r1 (by unfold way8 at *; omega))]
    exact ⟨_, rfl, stepE hd (by omega) (by omega)⟩
  · rw [rtK0_eq]
    unfold rtK0
    have hd := dK_asI ρ ((ρ.val 8).asI + 1 - (ρ.val 6).asI).toNat
    rw [sel_F (c1_f hd (by omega))]
    exact ⟨_, rfl, trivial⟩
theorem ackn_okS : SumE Try.prog fK SAckn 1600 2 (fnOf mSid) := by
  intro ρ hf hok
  rw [show fnOf mSid (1600 + 2) (tupD ρ.val SAckn.us) = .dB (decide (0 ≤ (ρ.val 6).asI ∧ (ρ.val 8).asI ≤ 100000 ∧ (ρ.val 8).asI - (ρ.val 6).asI ≤ 7 ∧ 0 ≤ (ρ.val 22).asI ∧ (ρ.val 22).asI ≤ 255)) from rfl, asB_dB, decide_eq_true_eq] at hok
  have e0 : ((rhoO SAckn 1600 ρ).val 23).asI = (ackn (ρ.val 6).asI (ρ.val 8).asI (ρ.val 22).asI).1 := by show (ρ.fn 1600 _).asI = _; rw [hf]; rfl
  have e1 : ((rhoO SAckn 1600 ρ).val 24).asB = (ackn (ρ.val 6).asI (ρ.val 8).asI (ρ.val 22).asI).2 := by show (ρ.fn 1601 _).asB = _; rw [hf]; rfl
  have a0 : (@Tm.den ρ (.app 1600 (tp [vt 6, vt 8, vt 22]))).asI = (ackn (ρ.val 6).asI (ρ.val 8).asI (ρ.val 22).asI).1 := by rw [d_app, hf]; rfl
  by_cases hw : way8 (ρ.val 6).asI (ρ.val 22).asI ≤ (ρ.val 8).asI - (ρ.val 6).asI
  · refine ⟨envK gK1, envOne_ok (fun f g h => by cases h) keyK (gK1_ok hf (by omega) (by omega) (by omega) (by omega) hw), ?_⟩
    rw [tAckn1_eq]
    refine ⟨_, rfl, ?_⟩
    simp only [eI, eB, eN, d_var, d_cb, e0, e1, a0, and_true, true_and]
    simp [ackn, hw]
  · refine ⟨envK gK0, envOne_ok (fun f g h => by cases h) keyK (gK0_ok (by omega) (by omega) (by omega) (by omega) hw), ?_⟩
    rw [tAckn0_eq]
    refine ⟨_, rfl, ?_⟩
    simp only [eI, eB, eN, d_var, d_ci, d_cb, e0, e1, and_true, true_and]
    simp [ackn, hw]
end
end Go.Proofs.Ytlbkficdelepeaa.Ab
