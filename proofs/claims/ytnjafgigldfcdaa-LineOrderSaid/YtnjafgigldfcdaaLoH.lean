/-
  LineOrder: a round of the main loop.
  Conditions: as each theorem tells.
-/
import Derived.Test.YtnjafgigldfcdaaLoF
import Derived.Test.YtnjafgigldfcdaaLoG
namespace Go.Proofs.Ytnjafgigldfcdaa.Ab
set_option linter.unusedSimpArgs false
set_option linter.unusedVariables false
open Go
set_option linter.unusedSectionVars false
set_option linter.unusedSimpArgs false
noncomputable section
/-- What the calls tell: call k, field j. -/
def cS (c0 : Dat) (k j : Nat) : Dat := (c0.asL.getD k []).getD j (.dI 0)
def kindB (c : Int) : Bool := (iop .eql .i64 (iop .rem .i64 (iop .add .i64 (iop .rem .i64 c 2).asI 2).asI 2).asI 0).asB
def frsR (x : MS) : List UInt8 := strR (x.L.asL.getD x.a.toNat [])
def nextM (c0 : Dat) (k : Nat) (x : MS) : MS :=
  bif kindB (cS c0 k 0).asI then msSend x (foldR (cS c0 k 1) (cS c0 k 2).asL) else
  if x.n = 0 then x else if (cS c0 k 3).asI < 1 ∨ ((frsR x).length : Int) ≤ (cS c0 k 3).asI then msAll x else msSome x (cS c0 k 3).asI
abbrev rhoM (ρ : Rho) (x : MS) : Rho := ⟨fun j => bif Nat.beq j 1 then x.L else bif Nat.beq j 2 then .dI x.a else bif Nat.beq j 3 then .dI x.n else bif Nat.beq j 4 then .dS x.sent else bif Nat.beq j 5 then .dS x.got else ρ.val j, ρ.fn⟩
/-- Calls that few lets pass. -/
structure Calls12 (c0 : Dat) : Prop where
  n : c0.asL.length ≤ 40
  s : ∀ k, k < c0.asL.length → (cS c0 k 1).asS.length ≤ 100
  d : ∀ k, k < c0.asL.length → (cS c0 k 2).asL.length ≤ 5
  r : ∀ k, k < c0.asL.length → ∀ r ∈ (cS c0 k 2).asL, okRow r
theorem Calls12.fold {c0 : Dat} (h : Calls12 c0) {k : Nat} (hk : k < c0.asL.length) : (foldR (cS c0 k 1) (cS c0 k 2).asL).asS.length ≤ 2000 := by
  have h1 := h.s k hk
  have h2 := h.d k hk
  have := foldR_len (cS c0 k 2).asL (cS c0 k 1) (h.r k hk) (by omega)
  omega
theorem MInv.sum {k : Nat} {x : MS} (hi : MInv k x) (hk : k ≤ 40) : sumR (piecesR x.L.asL x.a x.n) ≤ 80000 := by
  have h1 := sumR_le 2000 (piecesR x.L.asL x.a x.n) fun r hr => (hi.p r hr).2
  have h3 := hi.nk
  have h4 := hi.n0
  rw [pieces_len hi.an] at h1
  have : x.n.toNat ≤ 40 := by omega
  have : 2000 * x.n.toNat ≤ 2000 * 40 := Nat.mul_le_mul_left _ this
  omega
theorem MInv.gotl {k : Nat} {x : MS} (hi : MInv k x) (hk : k ≤ 40) : x.got.length ≤ 80000 := by
  have h1 := congrArg List.length hi.j
  rw [List.length_append] at h1
  have := hi.len
  omega
theorem next_inv {c0 : Dat} (h : Calls12 c0) {k : Nat} (hk : k < c0.asL.length) {x : MS} (hi : MInv k x) : MInv (k + 1) (nextM c0 k x) := by
  unfold nextM
  cases kindB (cS c0 k 0).asI with
  | true => exact inv_send hi (h.fold hk)
  | false =>
    simp only [cond_false]
    have hn := hi.n0
    split
    · exact inv_up hi
    · split
      · exact inv_all hi (by omega)
      · rename_i h1 h2
        exact inv_some hi (by omega) (by omega) (by
          have : ¬ ((frsR x).length : Int) ≤ (cS c0 k 3).asI := fun e => h2 (.inr e)
          unfold frsR at this; omega)
section
variable {ρ : Rho} (hf : ρ.fn = fnLo) {x : MS} {k : Nat}
theorem app97 (l a n : Tm) (ρ' : Rho) (hf : ρ'.fn = fnLo) : (@Tm.den ρ' (.app 97 (tp [l, a, n]))).asB = decide (lineOk (@Tm.den ρ' l).asL (@Tm.den ρ' a).asI (@Tm.den ρ' n).asI) := by
  rw [d_app, hf]; rfl
theorem app96 (l a n : Tm) (ρ' : Rho) (hf : ρ'.fn = fnLo) : (@Tm.den ρ' (.app 96 (tp [l, a, n]))).asI = (sumR (piecesR (@Tm.den ρ' l).asL (@Tm.den ρ' a).asI (@Tm.den ρ' n).asI) : Int) := by
  rw [d_app, hf]; rfl
include hf
theorem rd_all (hi : MInv k x) (hk : k ≤ 40) (hn : 0 < x.n) {t : Tree (AX × Option Eqs)} (ht : t = (.fork (.ib .leq .i64 (.ci 1) (vt 3))
      (.fork (.not rMn_6)
       (.leaf (.ret, (some [(.sS, (vt 5), (vt 5)), (.sS, (vt 4), (vt 4)), (.sI, (vt 2), (.plus (vt 2) (.ci 1))), (.sI, (vt 3), (.minus (vt 3) (.ci 1))), (.sL, (vt 1), (vt 1))])))
       (.fork rMn_7
        (.fork (.ib .neq .i64 rMn_8 rMn_9)
         (.leaf (.ret, (some [(.sS, (vt 5), (vt 5)), (.sS, (vt 4), (vt 4)), (.sI, (vt 2), (.plus (vt 2) (.ci 1))), (.sI, (vt 3), (.minus (vt 3) (.ci 1))), (.sL, (vt 1), (vt 1))])))
         (.fork rMn_10
          (.leaf (.normal, (some [(.sS, (vt 5), (.sb .add (vt 5) (.lget (vt 1) (vt 2) 0))), (.sS, (vt 4), (vt 4)), (.sI, (vt 2), (.plus (vt 2) (.ci 1))), (.sI, (vt 3), (.minus (vt 3) (.ci 1))), (.sL, (vt 1), (vt 1))])))
          .fail))
        .fail))
      .fail)) : ∃ es, @Tree.sel _ (rhoM ρ x) t = some (.normal, some es) ∧ EqsOk (rhoM ρ (msAll x)) (rhoM ρ x) es := by
  subst ht
  have ec := pieces_cons hi.a0 hn hi.an
  have hp := hi.p (x.L.asL.getD x.a.toNat []) (by rw [ec]; exact List.mem_cons_self)
  have hs : sumR (piecesR x.L.asL x.a x.n) = (frsR x).length + sumR (piecesR x.L.asL (x.a + 1) (x.n - 1)) := by rw [ec, sumR_cons]; rfl
  have hfl : 1 ≤ (frsR x).length := List.length_pos_iff.2 hp.1
  have hsm : sumR (piecesR x.L.asL x.a x.n) ≤ 80000 := hi.sum hk
  have hgl : x.got.length ≤ 80000 := hi.gotl (by omega)
  have ia := inv_all hi hn
  have lo : lineOk x.L.asL (x.a + 1) (x.n - 1) := by
    obtain ⟨b1, b2, b3, b4, b5, _, _⟩ := ia
    refine ⟨b1, b2, b3, ?_, fun r hr => ?_⟩
    · have := hi.nk; omega
    · have := (b5 r hr).2; omega
  rw [sel_T (by rw [leq_t]; show (1 : Int) ≤ x.n ∧ ¬ x.n < 1; omega)]
  rw [sel_F (by
    rw [not_f, beq_t, d_seql, d_eql, app96 _ _ _ (rhoM ρ x) hf]
    show (frsR x == []) = ((sumR (piecesR x.L.asL x.a x.n) : Int) == 0)
    rw [beq_eq_false_iff_ne.2 (show ¬ frsR x = [] from hp.1), beq_eq_false_iff_ne.2 (show ¬ (sumR (piecesR x.L.asL x.a x.n) : Int) = 0 by omega)])]
  rw [sel_T (by rw [app97 _ _ _ (rhoM ρ x) hf]; exact decide_eq_true lo)]
  rw [sel_F (by
    rw [neq_f, app96 _ _ _ (rhoM ρ x) hf, d_sub, app96 _ _ _ (rhoM ρ x) hf]
    show (sumR (piecesR x.L.asL (x.a + 1) (x.n - 1)) : Int) = IntKind.i64.wrap ((sumR (piecesR x.L.asL x.a x.n) : Int) - ((frsR x).length : Int))
    rw [w64 _ (by omega) (by omega)]; omega)]
  rw [sel_T (by
    rw [leq_t]
    show ((x.got.length : Int) + ((frsR x).length : Int) ≤ 9223372036854775807 ∧ _)
    have : ¬ (9223372036854775807 : Int) < (x.got.length : Int) + ((frsR x).length : Int) := by omega
    exact ⟨by omega, this⟩)]
  exact ⟨_, rfl, rfl, rfl, rfl, rfl, rfl, trivial⟩
theorem rd_hand (hi : MInv k x) (hc : Calls12 (ρ.val 0)) (hk : k < (ρ.val 0).asL.length) : ∃ es, @Tree.sel _ (rhoM ρ x) (rMn k) = some (.normal, some es) ∧ EqsOk (rhoM ρ (nextM (ρ.val 0) k x)) (rhoM ρ x) es := by
  have hk40 : k ≤ 40 := by have := hc.n; omega
  have lo := hi.line hk40
  have hn0 := hi.n0
  have hgl : x.got.length ≤ 80000 := hi.gotl (by omega)
  have hsl : x.sent.length ≤ 80000 := by have := hi.len; omega
  unfold rMn
  rw [sel_T (by show decide ((k : Int) < ((ρ.val 0).asL.length : Int)) = true; exact decide_eq_true (by omega))]
  cases hkd : kindB (cS (ρ.val 0) k 0).asI with
  | true =>
    rw [sel_T (by exact hkd)]
    have hfo := hc.fold hk
    have e72 : @Tm.den (rhoM ρ x) (.app 72 (tp [(cellT k 1), (cellT k 2)])) = foldR (cS (ρ.val 0) k 1) (cS (ρ.val 0) k 2).asL := by rw [d_app]; show ρ.fn 72 _ = _; rw [hf]; rfl
    have hso : sendOk x.L.asL x.a x.n (cS (ρ.val 0) k 1).asS (cS (ρ.val 0) k 2).asL := ⟨lo, by have := hc.s k hk; omega, by have := hc.d k hk; omega, hc.r k hk⟩
    rw [sel_T (by rw [d_app]; show (ρ.fn 84 _).asB = true; rw [hf]; exact decide_eq_true hso)]
    rw [sel_F (by
      rw [neq_f, d_len, e72, d_app]
      show (ρ.fn 80 _).asI = _
      rw [hf]; rfl)]
    rw [sel_T (by
      rw [leq_t, d_plus, d_len, d_len, e72]
      show ((x.sent.length : Int) + ((foldR (cS (ρ.val 0) k 1) (cS (ρ.val 0) k 2).asL).asS.length : Int) ≤ 9223372036854775807 ∧ ¬ 9223372036854775807 < (x.sent.length : Int) + ((foldR (cS (ρ.val 0) k 1) (cS (ρ.val 0) k 2).asL).asS.length : Int))
      omega)]
    unfold nextM
    rw [hkd]
    simp only [cond_true]
    refine ⟨_, rfl, rfl, ?_, ?_, ?_, ?_, trivial⟩
    · show x.sent ++ _ = (@Tm.den (rhoM ρ x) (rMn_3 k)).asS
      rw [d_sadd, e72]; rfl
    · show _ = (@Tm.den (rhoM ρ x) (.app 82 (rMn_1 k))).asI
      rw [d_app]; show _ = (ρ.fn 82 _).asI; rw [hf]; rfl
    · show _ = (@Tm.den (rhoM ρ x) (.app 83 (rMn_1 k))).asI
      rw [d_app]; show _ = (ρ.fn 83 _).asI; rw [hf]; rfl
    · show (msSend x (foldR (cS (ρ.val 0) k 1) (cS (ρ.val 0) k 2).asL)).L.asL = (@Tm.den (rhoM ρ x) (.app 81 (rMn_1 k))).asL
      rw [d_app]
      show _ = (ρ.fn 81 _).asL
      rw [hf]
      show (msSend x _).L.asL = sendL x.L.asL x.a x.n (foldR (cS (ρ.val 0) k 1) (cS (ρ.val 0) k 2).asL)
      unfold msSend sendL
      split <;> rfl
  | false =>
    rw [sel_F (by exact hkd)]
    rw [sel_T (by rw [app97 _ _ _ (rhoM ρ x) hf]; exact decide_eq_true lo)]
    unfold nextM
    rw [hkd]
    simp only [cond_false]
    by_cases hn : x.n = 0
    · have hp0 : piecesR x.L.asL x.a x.n = [] := by rw [hn]; simp [piecesR]
      rw [sel_T (by rw [eql_t]; exact hn), if_pos hn]
      rw [sel_F (by rw [neq_f, app96 _ _ _ (rhoM ρ x) hf]; show (sumR (piecesR x.L.asL x.a x.n) : Int) = 0; rw [hp0]; rfl)]
      rw [sel_F (by rw [neq_f, d_sub, app96 _ _ _ (rhoM ρ x) hf]; show (sumR (piecesR x.L.asL x.a x.n) : Int) = IntKind.i64.wrap ((sumR (piecesR x.L.asL x.a x.n) : Int) - 0); rw [hp0]; rfl)]
      rw [sel_T (by
        rw [leq_t]
        show ((x.got.length : Int) + 0 ≤ 9223372036854775807 ∧ ¬ 9223372036854775807 < (x.got.length : Int) + 0)
        omega)]
      exact ⟨_, rfl, (List.append_nil _).symm, rfl, rfl, rfl, rfl, trivial⟩
    · rw [sel_F (by rw [eql_f]; exact hn), if_neg hn]
      have hn1 : 0 < x.n := by omega
      rw [sel_T (by rw [lss_t]; show (0 : Int) < x.n ∧ ¬ x.n ≤ 0; omega)]
      by_cases h1 : (cS (ρ.val 0) k 3).asI < 1
      · rw [sel_T (by rw [lss_t]; exact ⟨h1, Int.not_le.2 h1⟩), if_pos (.inl h1)]
        exact rd_all hf hi hk40 hn1 rfl
      · rw [sel_F (by rw [lss_f]; exact ⟨Int.not_lt.1 h1, h1⟩)]
        by_cases h2 : ((frsR x).length : Int) ≤ (cS (ρ.val 0) k 3).asI
        · rw [sel_T (by rw [geq_t]; exact ⟨h2, Int.not_lt.2 h2⟩), if_pos (.inr h2)]
          exact rd_all hf hi hk40 hn1 rfl
        · rw [sel_F (by rw [geq_f]; exact ⟨Int.not_le.1 h2, h2⟩), if_neg (by rintro (h | h); exact h1 h; exact h2 h)]
          have hN : 1 ≤ (cS (ρ.val 0) k 3).asI := Int.not_lt.1 h1
          have hN2 : (cS (ρ.val 0) k 3).asI < ((frsR x).length : Int) := Int.not_le.1 h2
          have ec := pieces_cons hi.a0 hn1 hi.an
          have es := pieces_set hi.a0 hn1 hi.an [.dS (cutS (frsR x) (cS (ρ.val 0) k 3).asI ((frsR x).length : Int))]
          have hp := hi.p (x.L.asL.getD x.a.toNat []) (by rw [ec]; exact List.mem_cons_self)
          have hs : sumR (piecesR x.L.asL x.a x.n) = (frsR x).length + sumR (piecesR x.L.asL (x.a + 1) (x.n - 1)) := by rw [ec, sumR_cons]; rfl
          have hsm := hi.sum hk40
          have is := inv_some hi hn1 hN hN2
          have lo2 : lineOk (x.L.asL.set x.a.toNat [.dS (cutS (frsR x) (cS (ρ.val 0) k 3).asI ((frsR x).length : Int))]) x.a x.n := by
            obtain ⟨b1, b2, b3, b4, b5, _, _⟩ := is
            refine ⟨b1, b2, b3, ?_, fun r hr => ?_⟩
            · have := hi.nk; omega
            · have := (b5 r hr).2; omega
          have hc1 := cutS_len (frsR x) (cS (ρ.val 0) k 3).asI ((frsR x).length : Int)
          have hc0 := cutS_len (frsR x) 0 (cS (ρ.val 0) k 3).asI
          have hs2 : sumR (piecesR (x.L.asL.set x.a.toNat [.dS (cutS (frsR x) (cS (ρ.val 0) k 3).asI ((frsR x).length : Int))]) x.a x.n) = (cutS (frsR x) (cS (ρ.val 0) k 3).asI ((frsR x).length : Int)).length + sumR (piecesR x.L.asL (x.a + 1) (x.n - 1)) := by rw [es, sumR_cons]; rfl
          have hcz : (0 : Int).toNat = 0 := rfl
          rw [sel_T (by
            rw [and_t, leq_t, leq_t]
            show ((0 : Int) ≤ (cS (ρ.val 0) k 3).asI ∧ ¬ (cS (ρ.val 0) k 3).asI < 0) ∧ ((cS (ρ.val 0) k 3).asI ≤ ((frsR x).length : Int) ∧ ¬ ((frsR x).length : Int) < (cS (ρ.val 0) k 3).asI)
            omega)]
          rw [sel_F (by
            rw [not_f, beq_t, d_seql, d_eql, app96 _ _ _ (rhoM ρ x) hf]
            show (cutS (frsR x) 0 (cS (ρ.val 0) k 3).asI == []) = ((sumR (piecesR x.L.asL x.a x.n) : Int) == 0)
            rw [beq_eq_false_iff_ne.2 (show ¬ cutS (frsR x) 0 (cS (ρ.val 0) k 3).asI = [] from fun e => by rw [e] at hc0; simp only [List.length_nil] at hc0; omega), beq_eq_false_iff_ne.2 (show ¬ (sumR (piecesR x.L.asL x.a x.n) : Int) = 0 by omega)])]
          rw [sel_T (by rw [app97 _ _ _ (rhoM ρ x) hf]; exact decide_eq_true lo2)]
          rw [sel_F (by
            rw [neq_f, app96 _ _ _ (rhoM ρ x) hf, d_sub, app96 _ _ _ (rhoM ρ x) hf]
            show (sumR (piecesR (x.L.asL.set x.a.toNat [.dS (cutS (frsR x) (cS (ρ.val 0) k 3).asI ((frsR x).length : Int))]) x.a x.n) : Int) = IntKind.i64.wrap ((sumR (piecesR x.L.asL x.a x.n) : Int) - ((cutS (frsR x) 0 (cS (ρ.val 0) k 3).asI).length : Int))
            rw [w64 _ (by omega) (by omega)]; omega)]
          rw [sel_T (by
            rw [leq_t]
            show ((x.got.length : Int) + ((cutS (frsR x) 0 (cS (ρ.val 0) k 3).asI).length : Int) ≤ 9223372036854775807 ∧ ¬ 9223372036854775807 < (x.got.length : Int) + ((cutS (frsR x) 0 (cS (ρ.val 0) k 3).asI).length : Int))
            omega)]
          exact ⟨_, rfl, rfl, rfl, rfl, rfl, rfl, trivial⟩
end
end
end Go.Proofs.Ytnjafgigldfcdaa.Ab
