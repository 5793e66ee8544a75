/-
  ArqPlays: a round of its second loop, in plain terms: both sides do the same.
  Conditions: as each theorem tells.
-/
import Derived.Test.YtlbkficdelepeaaLpg
import Derived.Test.YtlbkficdelepeaaPlyR
namespace Go.Proofs.Ytlbkficdelepeaa.Ab
set_option linter.unusedSimpArgs false
set_option linter.unusedVariables false
open Go
set_option linter.unusedSectionVars false
noncomputable section
def ASt.toL (a : ASt) : List Dat := [.dI a.va, .dI a.vs, .dI a.vr, .dI a.waits, .dI a.out, .dI a.tries, .dI a.left, .dB a.pb, .dB a.busy, .dB a.rejs, .dB a.asks, .dB a.wants, .dB a.failed, .dI a.k, .dI a.n2, .dI a.t1, .dI a.off, .dI a.len, .dL a.L, .dI a.high, .dB a.due, .dB a.final, .dB a.reject, .dB a.poll]
def SSt.toL (s : SSt) : List Dat := [.dI s.k, .dI s.n2, .dI s.t1, .dI s.off, .dI s.len, .dL s.L, .dI s.acked, .dI s.sent, .dI s.top, .dI s.got, .dB s.due, .dB s.final, .dB s.reject, .dB s.poll, .dB s.pb, .dB s.busy, .dB s.rejs, .dB s.asks, .dB s.failed, .dB s.wants, .dI s.tries, .dI s.left]
/-! ### what a call leaves as it was -/
def ASt.pushW (a : ASt) (d : Dat) : ASt := { a with left := (a.push d).2.left, off := (a.push d).2.off, len := (a.push d).2.len, L := (a.push d).2.L }
theorem ASt.push_w (a : ASt) (d : Dat) : (a.push d).2 = a.pushW d := by
  unfold ASt.pushW ASt.push
  split
  · rfl
  · split <;> rfl
def SSt.pushW (a : SSt) (d : Dat) : SSt := { a with left := (a.push d).2.left, off := (a.push d).2.off, len := (a.push d).2.len, L := (a.push d).2.L }
theorem SSt.push_w (a : SSt) (d : Dat) : (a.push d).2 = a.pushW d := by
  unfold SSt.pushW SSt.push
  split
  · rfl
  · split <;> rfl
def ASt.nextW (a : ASt) : ASt := { a with out := a.next.2.2.out, left := a.next.2.2.left, high := a.next.2.2.high, due := a.next.2.2.due, final := a.next.2.2.final, reject := a.next.2.2.reject, poll := a.next.2.2.poll }
theorem ASt.next_w (a : ASt) : a.next.2.2 = a.nextW := by
  unfold ASt.nextW ASt.next
  repeat' split <;> try rfl
def SSt.nextW (a : SSt) : SSt := { a with sent := a.next.2.2.sent, top := a.next.2.2.top, left := a.next.2.2.left, due := a.next.2.2.due, final := a.next.2.2.final, reject := a.next.2.2.reject, poll := a.next.2.2.poll }
theorem SSt.next_w (a : SSt) : a.next.2.2 = a.nextW := by
  unfold SSt.nextW SSt.next
  repeat' split <;> try rfl
def ASt.busyW (a : ASt) (b : Bool) : ASt := { a with left := (a.setBusy b).left, busy := (a.setBusy b).busy, due := (a.setBusy b).due }
theorem ASt.busy_w (a : ASt) (b : Bool) : a.setBusy b = a.busyW b := by
  unfold ASt.busyW ASt.setBusy
  split <;> rfl
def SSt.busyW (a : SSt) (b : Bool) : SSt := { a with left := (a.setBusy b).left, busy := (a.setBusy b).busy, due := (a.setBusy b).due }
theorem SSt.busy_w (a : SSt) (b : Bool) : a.setBusy b = a.busyW b := by
  unfold SSt.busyW SSt.setBusy
  split <;> rfl
def ASt.wantW (a : ASt) (b : Bool) : ASt := { a with left := (a.setWant b).left, wants := (a.setWant b).wants }
theorem ASt.want_w (a : ASt) (b : Bool) : a.setWant b = a.wantW b := by
  unfold ASt.wantW ASt.setWant
  split <;> rfl
def SSt.wantW (a : SSt) (b : Bool) : SSt := { a with left := (a.setWant b).left, wants := (a.setWant b).wants }
theorem SSt.want_w (a : SSt) (b : Bool) : a.setWant b = a.wantW b := by
  unfold SSt.wantW SSt.setWant
  split <;> rfl
def ASt.tickW (a : ASt) : ASt := { a with tries := a.tick.2.tries, left := a.tick.2.left, asks := a.tick.2.asks, failed := a.tick.2.failed, poll := a.tick.2.poll }
theorem ASt.tick_w (a : ASt) : a.tick.2 = a.tickW := by
  have h : ∀ c : Prop, [Decidable c] → ∀ x y : Act × ASt, x.2 = { a with tries := x.2.tries, left := x.2.left, asks := x.2.asks, failed := x.2.failed, poll := x.2.poll } → y.2 = { a with tries := y.2.tries, left := y.2.left, asks := y.2.asks, failed := y.2.failed, poll := y.2.poll } → (if c then x else y).2 = { a with tries := (if c then x else y).2.tries, left := (if c then x else y).2.left, asks := (if c then x else y).2.asks, failed := (if c then x else y).2.failed, poll := (if c then x else y).2.poll } := fun c _ x y h1 h2 => by
    by_cases hc : c
    · simp only [if_pos hc]; exact h1
    · simp only [if_neg hc]; exact h2
  exact h _ _ _ rfl (h _ _ _ rfl (h _ _ _ rfl rfl))
def SSt.tickW (a : SSt) : SSt := { a with tries := a.tick.2.tries, left := a.tick.2.left, asks := a.tick.2.asks, failed := a.tick.2.failed, poll := a.tick.2.poll }
theorem SSt.tick_w (a : SSt) : a.tick.2 = a.tickW := by
  have h : ∀ c : Prop, [Decidable c] → ∀ x y : Act × SSt, x.2 = { a with tries := x.2.tries, left := x.2.left, asks := x.2.asks, failed := x.2.failed, poll := x.2.poll } → y.2 = { a with tries := y.2.tries, left := y.2.left, asks := y.2.asks, failed := y.2.failed, poll := y.2.poll } → (if c then x else y).2 = { a with tries := (if c then x else y).2.tries, left := (if c then x else y).2.left, asks := (if c then x else y).2.asks, failed := (if c then x else y).2.failed, poll := (if c then x else y).2.poll } := fun c _ x y h1 h2 => by
    by_cases hc : c
    · simp only [if_pos hc]; exact h1
    · simp only [if_neg hc]; exact h2
  exact h _ _ _ rfl (h _ _ _ rfl (h _ _ _ rfl rfl))
def ASt.hearTo (a b : ASt) : ASt := { a with va := b.va, vr := b.vr, out := b.out, tries := b.tries, left := b.left, pb := b.pb, rejs := b.rejs, asks := b.asks, failed := b.failed, off := b.off, len := b.len, high := b.high, due := b.due, final := b.final, reject := b.reject, poll := b.poll }
theorem ASt.kind_w (a b : ASt) (k : Int) (h : b = a.hearTo b) : b.kind k = a.hearTo (b.kind k) := by
  unfold ASt.kind
  repeat' split <;> try (rw [h]; rfl)
theorem ASt.answered_w (a b : ASt) (f : Frm) (h : b = a.hearTo b) : b.answered f = a.hearTo (b.answered f) := by
  unfold ASt.answered
  split <;> (rw [h]; rfl)
theorem ASt.polled_w (a b : ASt) (f : Frm) (h : b = a.hearTo b) : b.polled f = a.hearTo (b.polled f) := by
  unfold ASt.polled
  split <;> (rw [h]; rfl)
theorem ASt.hear_w (a : ASt) (f : Frm) : (a.hear f).2 = a.hearTo (a.hear f).2 := by
  unfold ASt.hear
  split
  · rfl
  · simp only
    split
    · rfl
    · have h1 := ASt.answered_w a _ f (ASt.kind_w a (a.acked (acks8 a.va (add8 a.va a.high) f.nr).1) f.k rfl)
      generalize ((a.acked (acks8 a.va (add8 a.va a.high) f.nr).1).kind f.k).answered f = b at *
      split
      · have h2 : (b.take f.ns f.info).2 = a.hearTo (b.take f.ns f.info).2 := by rw [h1]; rfl
        have h3 := ASt.polled_w a _ f h2
        generalize (b.take f.ns f.info).2.polled f = c at *
        rw [h3]; rfl
      · have h3 := ASt.polled_w a _ f h1
        show (b.polled f).count _ = a.hearTo ((b.polled f).count _)
        generalize b.polled f = c at *
        rw [h3]; rfl
def SSt.hearTo (a b : SSt) : SSt := { a with acked := b.acked, sent := b.sent, got := b.got, due := b.due, final := b.final, reject := b.reject, poll := b.poll, pb := b.pb, rejs := b.rejs, asks := b.asks, failed := b.failed, tries := b.tries, left := b.left }
theorem SSt.answered_w (a b : SSt) (f : Frm) (h : b = a.hearTo b) : b.answered f = a.hearTo (b.answered f) := by
  unfold SSt.answered
  split <;> (rw [h]; rfl)
theorem SSt.polled_w (a b : SSt) (f : Frm) (h : b = a.hearTo b) : b.polled f = a.hearTo (b.polled f) := by
  unfold SSt.polled
  split <;> (rw [h]; rfl)
theorem SSt.hear_w (a : SSt) (f : Frm) : (a.hear f).2 = a.hearTo (a.hear f).2 := by
  unfold SSt.hear
  split
  · rfl
  · simp only
    split
    · rfl
    · generalize (ackn a.acked a.top f.nr).1 = n
      have h1 := SSt.answered_w a (({ a with acked := n, sent := max a.sent n, tries := if n - a.acked > 0 then 0 else a.tries } : SSt).kind f.k) f rfl
      generalize (({ a with acked := n, sent := max a.sent n, tries := if n - a.acked > 0 then 0 else a.tries } : SSt).kind f.k).answered f = b at *
      split
      · have h2 : ∀ x, (b.take f.ns f.info x).2 = a.hearTo (b.take f.ns f.info x).2 := fun x => by rw [h1]; rfl
        have h3 := SSt.polled_w a _ f (h2 ⟨[], false, n - a.acked, false⟩)
        generalize (b.take f.ns f.info ⟨[], false, n - a.acked, false⟩).2.polled f = c at *
        rw [h3]; rfl
      · have h3 := SSt.polled_w a _ f h1
        show (b.polled f).count _ = a.hearTo ((b.polled f).count _)
        generalize b.polled f = c at *
        rw [h3]; rfl
/-! ### a call -/
def cOp (c : List Dat) : Int := gI c 0 % 9
def nxtA (c : List Dat) (a : ASt) : ASt :=
  if cOp c = 0 ∨ cOp c = 1 then a.pushW (c.getD 7 (.dI 0)) else if cOp c = 2 ∨ cOp c = 3 then a.nextW else if cOp c = 4 ∨ cOp c = 5 then a.hearTo (a.hear (frOf c 1)).2 else if cOp c = 6 then a.tickW else if cOp c = 8 then a.wantW (gB c 4) else a.busyW (gB c 4)
def nxtS (c : List Dat) (a : SSt) : SSt :=
  if cOp c = 0 ∨ cOp c = 1 then a.pushW (c.getD 7 (.dI 0)) else if cOp c = 2 ∨ cOp c = 3 then a.nextW else if cOp c = 4 ∨ cOp c = 5 then a.hearTo (a.hear (frOf c 1)).2 else if cOp c = 6 then a.tickW else if cOp c = 8 then a.wantW (gB c 4) else a.busyW (gB c 4)
theorem Rel.step {N : Int} {a : ASt} {s : SSt} (h : Rel N a s) (c : List Dat) : Rel (N + 1) (nxtA c a) (nxtS c s) := by
  unfold nxtA nxtS
  split
  · rw [← ASt.push_w, ← SSt.push_w]; exact (h.push _).2
  split
  · rw [← ASt.next_w, ← SSt.next_w]; exact h.next.2.2.mono (by omega)
  split
  · rw [← ASt.hear_w, ← SSt.hear_w]; exact (h.hear _).2
  split
  · rw [← ASt.tick_w, ← SSt.tick_w]; exact h.tick.2.mono (by omega)
  split
  · rw [← ASt.want_w, ← SSt.want_w]; exact (h.want _).mono (by omega)
  · rw [← ASt.busy_w, ← SSt.busy_w]; exact (h.setBusy _).mono (by omega)
/-! ### what the letters stand for -/
abbrev rhoP (L : List (List Dat)) (k n2 t1 e4 : Int) (i : Nat) (DA DS : List Dat) : Rho := ⟨fun j => bif Nat.blt j 6 then [Dat.dL L, .dI k, .dI n2, .dI t1, .dI e4, .dI i].getD j (.dI 0) else bif Nat.blt j 30 then DA.getD (j - 6) (.dI 0) else DS.getD (j - 30) (.dI 0), fnOf mSid⟩
section
variable {ρ ρ' : Rho}
abbrev Nx (ρ ρ' : Rho) (t : Tree (AX × Option Eqs)) : Prop := ∃ es, @Tree.sel _ ρ t = some (AX.normal, some es) ∧ EqsOk ρ' ρ es
theorem nxT {c : Tm} {x y : Tree (AX × Option Eqs)} (h : (@Tm.den ρ c).asB = true) (n : Nx ρ ρ' x) : Nx ρ ρ' (.fork c x y) := by
  obtain ⟨es, h1, h2⟩ := n
  exact ⟨es, by rw [sel_T h]; exact h1, h2⟩
theorem nxF {c : Tm} {x y : Tree (AX × Option Eqs)} (h : (@Tm.den ρ c).asB = false) (n : Nx ρ ρ' y) : Nx ρ ρ' (.fork c x y) := by
  obtain ⟨es, h1, h2⟩ := n
  exact ⟨es, by rw [sel_F h]; exact h1, h2⟩
theorem nxL {es : Eqs} (h : EqsOk ρ' ρ es) : Nx ρ ρ' (.leaf (.normal, some es)) := ⟨es, rfl, h⟩
theorem notF {c : Tm} (h : (@Tm.den ρ c).asB = true) : (@Tm.den ρ (.not c)).asB = false := by rw [not_f]; exact h
/-- The conditions of tells. -/
abbrev tellsT (t ac se go wt tr lf pb bu rj ak wa fa : Tm) : Tm :=
  .and (.ib .eql .u8 (.app 960 t) (.wrap .u8 (.ib .rem .i64 ac (.ci 8))))
  (.and (.ib .eql .u8 (.app 961 t) (.wrap .u8 (.ib .rem .i64 se (.ci 8))))
  (.and (.ib .eql .u8 (.app 962 t) (.wrap .u8 (.ib .rem .i64 go (.ci 8))))
  (.and (.ib .eql .i64 (.app 963 t) wt)
  (.and (.ib .eql .i64 (.app 964 t) (.ib .sub .i64 se ac))
  (.and (.ib .eql .i64 (.app 965 t) tr) (.and (.ib .eql .i64 (.app 966 t) lf)
  (.and (.beq (.app 967 t) pb) (.and (.beq (.app 968 t) bu) (.and (.beq (.app 969 t) rj) (.and (.beq (.app 970 t) ak) (.and (.beq (.app 971 t) wa) (.beq (.app 972 t) fa))))))))))))
theorem tmod_8 {x : Int} (h : 0 ≤ x) : x.tmod 8 = x % 8 := Int.tmod_eq_emod_of_nonneg h
theorem mod8T {x : Tm} {n : Int} (h : (@Tm.den ρ x).asI = n) (h0 : 0 ≤ n) : (@Tm.den ρ (.wrap .u8 (.ib .rem .i64 x (.ci 8)))).asI = n % 8 := by
  show IntKind.u8.wrap ((@Tm.den ρ x).asI.tmod 8) = _
  rw [h, tmod_8 h0, u8wrap (by omega) (by omega)]
theorem tells_ok (hf : ρ.fn = fnOf mSid) {N : Int} {a : ASt} {s : SSt} (h : Rel N a s) (hN : N ≤ 1000) {t ac se go wt tr lf pb bu rj ak wa fa : Tm} (ha : aOf (cellsD (@Tm.den ρ t)) = a)
    (h1 : (@Tm.den ρ ac).asI = s.acked) (h2 : (@Tm.den ρ se).asI = s.sent) (h3 : (@Tm.den ρ go).asI = s.got) (h4 : (@Tm.den ρ wt).asI = s.len - s.acked) (h5 : (@Tm.den ρ tr).asI = s.tries) (h6 : (@Tm.den ρ lf).asI = s.left)
    (h7 : (@Tm.den ρ pb).asB = s.pb) (h8 : (@Tm.den ρ bu).asB = s.busy) (h9 : (@Tm.den ρ rj).asB = s.rejs) (h10 : (@Tm.den ρ ak).asB = s.asks) (h11 : (@Tm.den ρ wa).asB = s.wants) (h12 : (@Tm.den ρ fa).asB = s.failed) :
    (@Tm.den ρ (tellsT t ac se go wt tr lf pb bu rj ak wa fa)).asB = true := by
  have b1 := h.acked0; have b2 := h.sent0; have b3 := h.top0; have b4 := h.len0; have b5 := h.lenN; have b6 := h.got0
  have g : ∀ n : Nat, @Tm.den ρ (.app n t) = fnOf mSid n (@Tm.den ρ t) := fun n => by rw [d_app, hf]
  have v : ∀ n : Nat, n < 13 → fnOf mSid (960 + n) (@Tm.den ρ t) = (mView (cellsD (@Tm.den ρ t))).getD n (.dB true) := fun n hn => by
    unfold fnOf
    rw [show (960 + n) / 64 = 15 by omega, show (960 + n) % 64 = n by omega]
    rfl
  have hv : mView (cellsD (@Tm.den ρ t)) = [.dI a.va, .dI (add8 a.va a.out), .dI a.vr, .dI a.len, .dI a.out, .dI a.tries, .dI a.left, .dB a.pb, .dB a.busy, .dB a.rejs, .dB a.asks, .dB a.wants, .dB a.failed] := by
    unfold mView
    rw [ha]
  rw [hv] at v
  have v0 := v 0 (by omega); have v1 := v 1 (by omega); have v2 := v 2 (by omega); have v3 := v 3 (by omega); have v4 := v 4 (by omega); have v5 := v 5 (by omega); have v6 := v 6 (by omega); have v7 := v 7 (by omega); have v8 := v 8 (by omega); have v9 := v 9 (by omega); have v10 := v 10 (by omega); have v11 := v 11 (by omega); have v12 := v 12 (by omega)
  simp only [Nat.add_zero, Nat.reduceAdd] at v0 v1 v2 v3 v4 v5 v6 v7 v8 v9 v10 v11 v12
  simp only [tellsT, and_t, eql_t, beq_t, g]
  rw [v0, v1, v2, v3, v4, v5, v6, v7, v8, v9, v10, v11, v12, mod8T h1 b1, mod8T h2 (by omega), mod8T h3 b6, h4, h5, h6, h7, h8, h9, h10, h11, h12]
  refine ⟨h.va, ?_, h.vr, h.len, ?_, h.tries.symm, h.left.symm, h.pb.symm, h.busy.symm, h.rejs.symm, h.asks.symm, h.wants.symm, h.failed.symm⟩
  · show add8 a.va a.out = _
    unfold add8
    have := h.va; have := h.out
    omega
  · show a.out = IntKind.i64.wrap ((@Tm.den ρ se).asI - (@Tm.den ρ ac).asI)
    rw [h1, h2, i64wrap (by omega) (by omega)]
    exact h.out
end
end
end Go.Proofs.Ytlbkficdelepeaa.Ab
