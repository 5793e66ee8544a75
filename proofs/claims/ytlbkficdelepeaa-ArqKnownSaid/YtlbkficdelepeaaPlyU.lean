/-
  ArqPlays: a round of its second loop leads to the next state, whatever is called.
  Conditions: as each theorem tells.
-/
import Derived.Test.YtlbkficdelepeaaPlyT
import Derived.Test.YtlbkficdelepeaaPlyS
namespace Go.Proofs.Ytlbkficdelepeaa.Ab
set_option linter.unusedSimpArgs false
set_option linter.unusedVariables false
open Go
set_option linter.unusedSectionVars false
noncomputable section
abbrev opT : Tm := .ib .rem .u8 (.lget (vt 0) (vt 5) 0) (.ci 9)
abbrev isT (i : Int) : Tm := .ib .eql .u8 opT (.ci i)
def kid (n : Bool) : Tree (AX × Option Eqs) → Tree (AX × Option Eqs)
  | .fork _ x y => bif n then x else y
  | t => t
def bodyP : Tree (AX × Option Eqs) := kid true (kid true rt2P)
def subPush : Tree (AX × Option Eqs) := kid true bodyP
def subNext : Tree (AX × Option Eqs) := kid true (kid false (kid false bodyP))
def subHear : Tree (AX × Option Eqs) := kid true (kid false (kid false (kid false (kid false bodyP))))
def subTick : Tree (AX × Option Eqs) := kid true (kid false (kid false (kid false (kid false (kid false (kid false bodyP))))))
def subWant : Tree (AX × Option Eqs) := kid true (kid false (kid false (kid false (kid false (kid false (kid false (kid false bodyP)))))))
def subBusy : Tree (AX × Option Eqs) := kid false (kid false (kid false (kid false (kid false (kid false (kid false (kid false bodyP)))))))
set_option maxRecDepth 100000 in
theorem rt2P_is : rt2P = .fork (.ib .lss .i64 (vt 5) (.llen (vt 0))) (.fork rt2P_0 (.fork (isT 0) subPush (.fork (isT 1) subPush (.fork (isT 2) subNext (.fork (isT 3) subNext (.fork (isT 4) subHear (.fork (isT 5) subHear (.fork (isT 6) subTick (.fork (isT 8) subWant subBusy)))))))) .fail) (.leaf (.exit 2, some [])) := by kernel_rfl
section
variable {L : List (List Dat)} {k n2 t1 e4 N : Int} {i : Nat} {DA DS : List Dat} {a : ASt} {s : SSt}
theorem addI (h : i ≤ 1000) {ρ' : Rho} (e : (ρ'.val 5).asI = ((i + 1 : Nat) : Int)) : (@Tm.den ρ' (vt 5)).asI = (@Tm.den (rhoP L k n2 t1 e4 i DA DS) (.ib .add .i64 (vt 5) (.ci 1))).asI := by
  show (ρ'.val 5).asI = IntKind.i64.wrap ((i : Int) + 1)
  rw [e, i64wrap (by omega) (by omega)]
  omega
theorem eqV {α : Type} {x y u v : α} (h : u = v) (h1 : x = u) (h2 : y = v) : x = y := h1.trans (h.trans h2.symm)
theorem push_nx (h : Rel N (aOf DA) (sOf DS)) (hN : N ≤ 500) (hi : i ≤ 1000) : Nx (rhoP L k n2 t1 e4 i DA DS) (rhoP L k n2 t1 e4 (i + 1) ((aOf DA).pushW ((L.getD i []).getD 7 (.dI 0))).toL ((sOf DS).pushW ((L.getD i []).getD 7 (.dI 0))).toL) subPush := by
  obtain ⟨q1, q2⟩ := h.push ((L.getD i []).getD 7 (.dI 0))
  rw [ASt.push_w, SSt.push_w] at q2
  have b1 := h.acked0; have b2 := h.sent0; have b3 := h.top0; have b4 := h.len0; have b5 := h.lenN; have b6 := h.got0; have b7 := h.gotN; have b8 := h.len; have b9 := h.aoff; have b10 := h.aL; have b11 := h.soff; have b12 := h.sL
  have c1 := q2.lenN; have c2 := q2.acked0; have c3 := q2.sent0; have c4 := q2.top0; have c5 := q2.len0
  refine nxT ?_ (nxT ?_ (nxF ?_ (nxT (by kernel_rfl) (nxT ?_ (nxF (notF (tells_ok (by kernel_rfl) q2 (by omega) (by kernel_rfl) (by kernel_rfl) (by kernel_rfl) (by kernel_rfl) ?_ (by kernel_rfl) (by kernel_rfl) (by kernel_rfl) (by kernel_rfl) (by kernel_rfl) (by kernel_rfl) (by kernel_rfl) (by kernel_rfl))) (nxT (by kernel_rfl) (nxT (by kernel_rfl) (nxF (notF ?_) (nxL ?_)))))))))
  · show decide (0 ≤ (aOf DA).len ∧ (aOf DA).len < 1000 ∧ (aOf DA).off + (aOf DA).len ≤ ((aOf DA).L.length : Int) ∧ 0 ≤ (aOf DA).off) = true
    exact decide_eq_true (by omega)
  · show decide (0 ≤ (sOf DS).off ∧ 0 ≤ (sOf DS).len ∧ (sOf DS).len ≤ 100000 ∧ (sOf DS).off + (sOf DS).len ≤ ((sOf DS).L.length : Int) ∧ 0 ≤ (sOf DS).acked ∧ (sOf DS).acked ≤ 100000 ∧ 0 ≤ (sOf DS).sent ∧ (sOf DS).sent ≤ 100000 ∧ 0 ≤ (sOf DS).top ∧ (sOf DS).top ≤ 100000 ∧ 0 ≤ (sOf DS).got ∧ (sOf DS).got ≤ 100000) = true
    exact decide_eq_true (by omega)
  · rw [neq_f]; exact eqV q1 (by kernel_rfl) (by kernel_rfl)
  · show decide (0 ≤ ((sOf DS).pushW ((L.getD i []).getD 7 (.dI 0))).len ∧ ((sOf DS).pushW ((L.getD i []).getD 7 (.dI 0))).len ≤ 200000 ∧ 0 ≤ ((sOf DS).pushW ((L.getD i []).getD 7 (.dI 0))).acked ∧ ((sOf DS).pushW ((L.getD i []).getD 7 (.dI 0))).acked ≤ 200000) = true
    exact decide_eq_true (by omega)
  · kernel_rfl
  · rw [beq_t]; exact eqV q2.has (by kernel_rfl) (by kernel_rfl)
  · refine ⟨addI hi (by kernel_rfl), ?_⟩
    simp only [eI, eB, eS, eL, eN, and_true]
    repeat' apply And.intro
    all_goals kernel_rfl
theorem okLS (h : Rel N (aOf DA) (sOf DS)) (hN : N ≤ 500) : 0 ≤ (sOf DS).off ∧ 0 ≤ (sOf DS).len ∧ (sOf DS).len ≤ 100000 ∧ (sOf DS).off + (sOf DS).len ≤ ((sOf DS).L.length : Int) ∧ 0 ≤ (sOf DS).acked ∧ (sOf DS).acked ≤ 100000 ∧ 0 ≤ (sOf DS).sent ∧ (sOf DS).sent ≤ 100000 ∧ 0 ≤ (sOf DS).top ∧ (sOf DS).top ≤ 100000 ∧ 0 ≤ (sOf DS).got ∧ (sOf DS).got ≤ 100000 := by
  have b1 := h.acked0; have b2 := h.sent0; have b3 := h.top0; have b4 := h.len0; have b5 := h.lenN; have b6 := h.got0; have b7 := h.gotN; have b11 := h.soff; have b12 := h.sL
  omega
theorem waitsD (h : Rel N a s) (hN : N ≤ 1000) : decide (0 ≤ s.len ∧ s.len ≤ 200000 ∧ 0 ≤ s.acked ∧ s.acked ≤ 200000) = true := by
  have b1 := h.acked0; have b2 := h.sent0; have b3 := h.top0; have b4 := h.len0; have b5 := h.lenN
  exact decide_eq_true (by omega)
theorem ASt.next_has (a : ASt) : a.next.2.1 = a.has := by
  unfold ASt.next
  split
  · rename_i h; exact h.symm
  · rename_i h
    have : a.has = true := by simpa using h
    repeat' split <;> (first | exact this.symm | skip)
theorem next_nx (h : Rel N (aOf DA) (sOf DS)) (hN : N ≤ 500) (hi : i ≤ 1000) : Nx (rhoP L k n2 t1 e4 i DA DS) (rhoP L k n2 t1 e4 (i + 1) (aOf DA).nextW.toL (sOf DS).nextW.toL) subNext := by
  obtain ⟨q1, q3, q2⟩ := h.next
  rw [ASt.next_w, SSt.next_w] at q2
  have b1 := h.acked0; have b2 := h.sent0; have b3 := h.top0; have b4 := h.len0; have b5 := h.lenN; have b6 := h.out; have b7 := h.k7; have b8 := h.len; have b9 := h.aoff; have b10 := h.lenk
  refine nxT (by kernel_rfl) (nxT ?_ (nxT ?_ (nxT ?_ (nxT ?_ (nxF (notF ?_) (nxT (by kernel_rfl) (nxT (waitsD q2 (by omega)) (nxF (notF (tells_ok (by kernel_rfl) q2 (by omega) (by kernel_rfl) (by kernel_rfl) (by kernel_rfl) (by kernel_rfl) (by kernel_rfl) (by kernel_rfl) (by kernel_rfl) (by kernel_rfl) (by kernel_rfl) (by kernel_rfl) (by kernel_rfl) (by kernel_rfl) (by kernel_rfl))) (nxT (by kernel_rfl) (nxT (by kernel_rfl) (nxF (notF ?_) (nxL ?_))))))))))))
  · show decide (0 ≤ (aOf DA).out ∧ (aOf DA).out ≤ 100 ∧ 0 ≤ (aOf DA).len ∧ 0 ≤ (aOf DA).off) = true
    exact decide_eq_true (by omega)
  · show decide (okL _) = true
    exact decide_eq_true (okLS h hN)
  · simp only [and_t, eql_t, beq_t, seql_t]
    exact ⟨eqV (congrArg Frm.d q1) (by kernel_rfl) (by kernel_rfl), eqV (congrArg Frm.c q1) (by kernel_rfl) (by kernel_rfl), eqV (congrArg Frm.k q1) (by kernel_rfl) (by kernel_rfl), eqV (congrArg Frm.pf q1) (by kernel_rfl) (by kernel_rfl), eqV (congrArg Frm.ns q1) (by kernel_rfl) (by kernel_rfl), eqV (congrArg Frm.nr q1) (by kernel_rfl) (by kernel_rfl), eqV (congrArg Frm.info q1) (by kernel_rfl) (by kernel_rfl)⟩
  · rw [beq_t]; exact eqV q3 (by kernel_rfl) (by kernel_rfl)
  · rw [beq_t]; exact eqV (aOf DA).next_has (by kernel_rfl) (by kernel_rfl)
  · rw [beq_t]; exact eqV q2.has (by kernel_rfl) (by kernel_rfl)
  · refine ⟨addI hi (by kernel_rfl), ?_⟩
    simp only [eI, eB, eS, eL, eN, and_true]
    repeat' apply And.intro
    all_goals kernel_rfl
/-- What the arguments' rows are. -/
def RowsC (L : List (List Dat)) : Prop := ∀ i, i < L.length → (0 ≤ gI (L.getD i []) 0 ∧ gI (L.getD i []) 0 ≤ 255) ∧ (0 ≤ gI (L.getD i []) 5 ∧ gI (L.getD i []) 5 ≤ 255) ∧ (0 ≤ gI (L.getD i []) 6 ∧ gI (L.getD i []) 6 ≤ 255)
theorem hear_nx (h : Rel N (aOf DA) (sOf DS)) (hN : N ≤ 500) (hi : i ≤ 1000) (hL : RowsC L) (hl : i < L.length) : Nx (rhoP L k n2 t1 e4 i DA DS) (rhoP L k n2 t1 e4 (i + 1) ((aOf DA).hearTo ((aOf DA).hear (frOf (L.getD i []) 1)).2).toL ((sOf DS).hearTo ((sOf DS).hear (frOf (L.getD i []) 1)).2).toL) subHear := by
  obtain ⟨q1, q2⟩ := h.hear (frOf (L.getD i []) 1)
  rw [ASt.hear_w, SSt.hear_w] at q2
  obtain ⟨_, ⟨r1, r2⟩, r3, r4⟩ := hL i hl
  have b1 := h.acked0; have b2 := h.sent0; have b3 := h.top0; have b4 := h.len0; have b5 := h.lenN; have b6 := h.out; have b7 := h.k7; have b8 := h.len; have b9 := h.aoff; have b10 := h.lenk; have b11 := h.high
  refine nxT ?_ (nxT ?_ (nxF (notF ?_) (nxT (by kernel_rfl) (nxT (waitsD q2 (by omega)) (nxF (notF (tells_ok (by kernel_rfl) q2 (by omega) (by kernel_rfl) (by kernel_rfl) (by kernel_rfl) (by kernel_rfl) (by kernel_rfl) (by kernel_rfl) (by kernel_rfl) (by kernel_rfl) (by kernel_rfl) (by kernel_rfl) (by kernel_rfl) (by kernel_rfl) (by kernel_rfl))) (nxT (by kernel_rfl) (nxT (by kernel_rfl) (nxF (notF ?_) (nxL ?_)))))))))
  · show decide (0 ≤ (aOf DA).out ∧ (aOf DA).out ≤ 100 ∧ 0 ≤ (aOf DA).high ∧ (aOf DA).high ≤ (aOf DA).len ∧ (aOf DA).high ≤ 7) = true
    exact decide_eq_true (by omega)
  · show decide (okL _ ∧ (sOf DS).top - (sOf DS).acked ≤ 7 ∧ 0 ≤ gI (L.getD i []) 5 ∧ gI (L.getD i []) 5 ≤ 255 ∧ 0 ≤ gI (L.getD i []) 6 ∧ gI (L.getD i []) 6 ≤ 255) = true
    exact decide_eq_true ⟨okLS h hN, by omega⟩
  · simp only [and_t, eql_t, beq_t, seql_t]
    exact ⟨eqV (congrArg Act.info q1) (by kernel_rfl) (by kernel_rfl), eqV (congrArg Act.taken q1) (by kernel_rfl) (by kernel_rfl), eqV (congrArg Act.acked q1) (by kernel_rfl) (by kernel_rfl), eqV (congrArg Act.failed q1) (by kernel_rfl) (by kernel_rfl)⟩
  · rw [beq_t]; exact eqV q2.has (by kernel_rfl) (by kernel_rfl)
  · refine ⟨addI hi (by kernel_rfl), ?_⟩
    simp only [eI, eB, eS, eL, eN, and_true]
    repeat' apply And.intro
    all_goals kernel_rfl
theorem tick_nx (h : Rel N (aOf DA) (sOf DS)) (hN : N ≤ 500) (hi : i ≤ 1000) : Nx (rhoP L k n2 t1 e4 i DA DS) (rhoP L k n2 t1 e4 (i + 1) (aOf DA).tickW.toL (sOf DS).tickW.toL) subTick := by
  obtain ⟨q1, q2⟩ := h.tick
  rw [ASt.tick_w, SSt.tick_w] at q2
  have b1 := h.tries0; have b2 := h.tries2; have b3 := h.n2; have b4 := h.left0; have b5 := h.left2; have b6 := h.tries; have b7 := h.left
  refine nxT ?_ (nxT ?_ (nxF (notF ?_) (nxT (by kernel_rfl) (nxT (waitsD q2 (by omega)) (nxF (notF (tells_ok (by kernel_rfl) q2 (by omega) (by kernel_rfl) (by kernel_rfl) (by kernel_rfl) (by kernel_rfl) (by kernel_rfl) (by kernel_rfl) (by kernel_rfl) (by kernel_rfl) (by kernel_rfl) (by kernel_rfl) (by kernel_rfl) (by kernel_rfl) (by kernel_rfl))) (nxT (by kernel_rfl) (nxT (by kernel_rfl) (nxF (notF ?_) (nxL ?_)))))))))
  · show decide (0 ≤ (aOf DA).tries ∧ (aOf DA).tries ≤ 1000 ∧ 0 ≤ (aOf DA).left ∧ (aOf DA).left ≤ 1000) = true
    exact decide_eq_true (by omega)
  · show decide (0 ≤ (sOf DS).tries ∧ (sOf DS).tries ≤ 1000 ∧ 0 ≤ (sOf DS).left ∧ (sOf DS).left ≤ 1000) = true
    exact decide_eq_true (by omega)
  · simp only [and_t, eql_t, beq_t, seql_t]
    exact ⟨eqV (congrArg Act.info q1) (by kernel_rfl) (by kernel_rfl), eqV (congrArg Act.taken q1) (by kernel_rfl) (by kernel_rfl), eqV (congrArg Act.acked q1) (by kernel_rfl) (by kernel_rfl), eqV (congrArg Act.failed q1) (by kernel_rfl) (by kernel_rfl)⟩
  · rw [beq_t]; exact eqV q2.has (by kernel_rfl) (by kernel_rfl)
  · refine ⟨addI hi (by kernel_rfl), ?_⟩
    simp only [eI, eB, eS, eL, eN, and_true]
    repeat' apply And.intro
    all_goals kernel_rfl
theorem want_nx (h : Rel N (aOf DA) (sOf DS)) (hN : N ≤ 500) (hi : i ≤ 1000) : Nx (rhoP L k n2 t1 e4 i DA DS) (rhoP L k n2 t1 e4 (i + 1) ((aOf DA).wantW (gB (L.getD i []) 4)).toL ((sOf DS).wantW (gB (L.getD i []) 4)).toL) subWant := by
  have q2 := h.want (gB (L.getD i []) 4)
  rw [ASt.want_w, SSt.want_w] at q2
  refine nxT (by kernel_rfl) (nxT ?_ (nxT (by kernel_rfl) (nxT (waitsD q2 (by omega)) (nxF (notF (tells_ok (by kernel_rfl) q2 (by omega) (by kernel_rfl) (by kernel_rfl) (by kernel_rfl) (by kernel_rfl) (by kernel_rfl) (by kernel_rfl) (by kernel_rfl) (by kernel_rfl) (by kernel_rfl) (by kernel_rfl) (by kernel_rfl) (by kernel_rfl) (by kernel_rfl))) (nxT (by kernel_rfl) (nxT (by kernel_rfl) (nxF (notF ?_) (nxL ?_))))))))
  · show decide (okL _) = true
    exact decide_eq_true (okLS h hN)
  · rw [beq_t]; exact eqV q2.has (by kernel_rfl) (by kernel_rfl)
  · refine ⟨addI hi (by kernel_rfl), ?_⟩
    simp only [eI, eB, eS, eL, eN, and_true]
    repeat' apply And.intro
    all_goals kernel_rfl
theorem busy_nx (h : Rel N (aOf DA) (sOf DS)) (hN : N ≤ 500) (hi : i ≤ 1000) : Nx (rhoP L k n2 t1 e4 i DA DS) (rhoP L k n2 t1 e4 (i + 1) ((aOf DA).busyW (gB (L.getD i []) 4)).toL ((sOf DS).busyW (gB (L.getD i []) 4)).toL) subBusy := by
  have q2 := h.setBusy (gB (L.getD i []) 4)
  rw [ASt.busy_w, SSt.busy_w] at q2
  refine nxT (by kernel_rfl) (nxT ?_ (nxT (by kernel_rfl) (nxT (waitsD q2 (by omega)) (nxF (notF (tells_ok (by kernel_rfl) q2 (by omega) (by kernel_rfl) (by kernel_rfl) (by kernel_rfl) (by kernel_rfl) (by kernel_rfl) (by kernel_rfl) (by kernel_rfl) (by kernel_rfl) (by kernel_rfl) (by kernel_rfl) (by kernel_rfl) (by kernel_rfl) (by kernel_rfl))) (nxT (by kernel_rfl) (nxT (by kernel_rfl) (nxF (notF ?_) (nxL ?_))))))))
  · show decide (okL _) = true
    exact decide_eq_true (okLS h hN)
  · rw [beq_t]; exact eqV q2.has (by kernel_rfl) (by kernel_rfl)
  · refine ⟨addI hi (by kernel_rfl), ?_⟩
    simp only [eI, eB, eS, eL, eN, and_true]
    repeat' apply And.intro
    all_goals kernel_rfl
theorem opD (hL : RowsC L) (hl : i < L.length) : (@Tm.den (rhoP L k n2 t1 e4 i DA DS) opT).asI = cOp (L.getD i []) := by
  obtain ⟨⟨r1, r2⟩, _⟩ := hL i hl
  show (gI (L.getD i []) 0).tmod 9 = _
  exact Int.tmod_eq_emod_of_nonneg r1
theorem nxtA_push {c : List Dat} {a : ASt} (h : cOp c = 0 ∨ cOp c = 1) : nxtA c a = a.pushW (c.getD 7 (.dI 0)) := by
  unfold nxtA
  rw [if_pos h]
theorem nxtA_next {c : List Dat} {a : ASt} (h : cOp c = 2 ∨ cOp c = 3) : nxtA c a = a.nextW := by
  unfold nxtA
  rw [if_neg (by omega), if_pos h]
theorem nxtA_hear {c : List Dat} {a : ASt} (h : cOp c = 4 ∨ cOp c = 5) : nxtA c a = a.hearTo (a.hear (frOf c 1)).2 := by
  unfold nxtA
  rw [if_neg (by omega), if_neg (by omega), if_pos h]
theorem nxtA_tick {c : List Dat} {a : ASt} (h : cOp c = 6) : nxtA c a = a.tickW := by
  unfold nxtA
  rw [if_neg (by omega), if_neg (by omega), if_neg (by omega), if_pos h]
theorem nxtA_want {c : List Dat} {a : ASt} (h : cOp c = 8) : nxtA c a = a.wantW (gB c 4) := by
  unfold nxtA
  rw [if_neg (by omega), if_neg (by omega), if_neg (by omega), if_neg (by omega), if_pos h]
theorem nxtA_busy {c : List Dat} {a : ASt} (h : cOp c ≠ 0 ∧ cOp c ≠ 1 ∧ cOp c ≠ 2 ∧ cOp c ≠ 3 ∧ cOp c ≠ 4 ∧ cOp c ≠ 5 ∧ cOp c ≠ 6 ∧ cOp c ≠ 8) : nxtA c a = a.busyW (gB c 4) := by
  unfold nxtA
  rw [if_neg (by omega), if_neg (by omega), if_neg (by omega), if_neg (by omega), if_neg (by omega)]
theorem nxtS_push {c : List Dat} {a : SSt} (h : cOp c = 0 ∨ cOp c = 1) : nxtS c a = a.pushW (c.getD 7 (.dI 0)) := by
  unfold nxtS
  rw [if_pos h]
theorem nxtS_next {c : List Dat} {a : SSt} (h : cOp c = 2 ∨ cOp c = 3) : nxtS c a = a.nextW := by
  unfold nxtS
  rw [if_neg (by omega), if_pos h]
theorem nxtS_hear {c : List Dat} {a : SSt} (h : cOp c = 4 ∨ cOp c = 5) : nxtS c a = a.hearTo (a.hear (frOf c 1)).2 := by
  unfold nxtS
  rw [if_neg (by omega), if_neg (by omega), if_pos h]
theorem nxtS_tick {c : List Dat} {a : SSt} (h : cOp c = 6) : nxtS c a = a.tickW := by
  unfold nxtS
  rw [if_neg (by omega), if_neg (by omega), if_neg (by omega), if_pos h]
theorem nxtS_want {c : List Dat} {a : SSt} (h : cOp c = 8) : nxtS c a = a.wantW (gB c 4) := by
  unfold nxtS
  rw [if_neg (by omega), if_neg (by omega), if_neg (by omega), if_neg (by omega), if_pos h]
theorem nxtS_busy {c : List Dat} {a : SSt} (h : cOp c ≠ 0 ∧ cOp c ≠ 1 ∧ cOp c ≠ 2 ∧ cOp c ≠ 3 ∧ cOp c ≠ 4 ∧ cOp c ≠ 5 ∧ cOp c ≠ 6 ∧ cOp c ≠ 8) : nxtS c a = a.busyW (gB c 4) := by
  unfold nxtS
  rw [if_neg (by omega), if_neg (by omega), if_neg (by omega), if_neg (by omega), if_neg (by omega)]
/-- A round. -/
theorem round_nx (h : Rel N (aOf DA) (sOf DS)) (hN : N ≤ 500) (hL : RowsC L) (hl : i < L.length) (hi : i ≤ 1000) : Nx (rhoP L k n2 t1 e4 i DA DS) (rhoP L k n2 t1 e4 (i + 1) (nxtA (L.getD i []) (aOf DA)).toL (nxtS (L.getD i []) (sOf DS)).toL) rt2P := by
  have ho := opD (k := k) (n2 := n2) (t1 := t1) (e4 := e4) (DA := DA) (DS := DS) hL hl
  have hr : 0 ≤ cOp (L.getD i []) ∧ cOp (L.getD i []) ≤ 8 := by unfold cOp; omega
  have no : ∀ j, cOp (L.getD i []) ≠ j → (@Tm.den (rhoP L k n2 t1 e4 i DA DS) (isT j)).asB = false := fun j hj => by rw [eql_f, ho]; exact hj
  have yes : ∀ j, cOp (L.getD i []) = j → (@Tm.den (rhoP L k n2 t1 e4 i DA DS) (isT j)).asB = true := fun j hj => by rw [eql_t, ho]; exact hj
  have e1 : (@Tm.den (rhoP L k n2 t1 e4 i DA DS) (.ib .lss .i64 (vt 5) (.llen (vt 0)))).asB = true := decide_eq_true (by show (i : Int) < (L.length : Int); omega)
  have e2 : (@Tm.den (rhoP L k n2 t1 e4 i DA DS) rt2P_0).asB = true := by
    rw [and_t]
    exact ⟨(by show decide ((0 : Int) ≤ (i : Int)) = true; exact decide_eq_true (by omega)), e1⟩
  rw [rt2P_is]
  refine nxT e1 (nxT e2 ?_)
  have hc : cOp (L.getD i []) = 0 ∨ cOp (L.getD i []) = 1 ∨ cOp (L.getD i []) = 2 ∨ cOp (L.getD i []) = 3 ∨ cOp (L.getD i []) = 4 ∨ cOp (L.getD i []) = 5 ∨ cOp (L.getD i []) = 6 ∨ cOp (L.getD i []) = 7 ∨ cOp (L.getD i []) = 8 := by omega
  rcases hc with c | c | c | c | c | c | c | c | c
  · rw [nxtA_push (by omega), nxtS_push (by omega)]
    exact nxT (yes 0 c) (push_nx h hN hi)
  · rw [nxtA_push (by omega), nxtS_push (by omega)]
    exact nxF (no 0 (by omega)) (nxT (yes 1 c) (push_nx h hN hi))
  · rw [nxtA_next (by omega), nxtS_next (by omega)]
    exact nxF (no 0 (by omega)) (nxF (no 1 (by omega)) (nxT (yes 2 c) (next_nx h hN hi)))
  · rw [nxtA_next (by omega), nxtS_next (by omega)]
    exact nxF (no 0 (by omega)) (nxF (no 1 (by omega)) (nxF (no 2 (by omega)) (nxT (yes 3 c) (next_nx h hN hi))))
  · rw [nxtA_hear (by omega), nxtS_hear (by omega)]
    exact nxF (no 0 (by omega)) (nxF (no 1 (by omega)) (nxF (no 2 (by omega)) (nxF (no 3 (by omega)) (nxT (yes 4 c) (hear_nx h hN hi hL hl)))))
  · rw [nxtA_hear (by omega), nxtS_hear (by omega)]
    exact nxF (no 0 (by omega)) (nxF (no 1 (by omega)) (nxF (no 2 (by omega)) (nxF (no 3 (by omega)) (nxF (no 4 (by omega)) (nxT (yes 5 c) (hear_nx h hN hi hL hl))))))
  · rw [nxtA_tick (by omega), nxtS_tick (by omega)]
    exact nxF (no 0 (by omega)) (nxF (no 1 (by omega)) (nxF (no 2 (by omega)) (nxF (no 3 (by omega)) (nxF (no 4 (by omega)) (nxF (no 5 (by omega)) (nxT (yes 6 c) (tick_nx h hN hi)))))))
  · rw [nxtA_busy (by omega), nxtS_busy (by omega)]
    exact nxF (no 0 (by omega)) (nxF (no 1 (by omega)) (nxF (no 2 (by omega)) (nxF (no 3 (by omega)) (nxF (no 4 (by omega)) (nxF (no 5 (by omega)) (nxF (no 6 (by omega)) (nxF (no 8 (by omega)) (busy_nx h hN hi))))))))
  · rw [nxtA_want (by omega), nxtS_want (by omega)]
    exact nxF (no 0 (by omega)) (nxF (no 1 (by omega)) (nxF (no 2 (by omega)) (nxF (no 3 (by omega)) (nxF (no 4 (by omega)) (nxF (no 5 (by omega)) (nxF (no 6 (by omega)) (nxT (yes 8 c) (want_nx h hN hi))))))))
end
end
end Go.Proofs.Ytlbkficdelepeaa.Ab
