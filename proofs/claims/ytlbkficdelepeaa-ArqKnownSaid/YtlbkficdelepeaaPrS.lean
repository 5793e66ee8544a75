/-
  ArqPair: a round of its loop keeps the invariant, whatever the step is.
  Conditions: as each theorem tells.
-/
import Derived.Test.YtlbkficdelepeaaPrT
import Derived.Test.YtlbkficdelepeaaPrR
import Derived.Test.YtlbkficdelepeaaPlyS
import Derived.Test.YtlbkficdelepeaaNx
namespace Go.Proofs.Ytlbkficdelepeaa.Ab
set_option linter.unusedSimpArgs false
set_option linter.unusedVariables false
open Go
set_option linter.unusedSectionVars false
noncomputable section
def mOf (l : List Dat) : Mst := ⟨gI l 0, gI l 1, gI l 2, gI l 3, gB l 4, gI l 5, gI l 6, gL l 7, gI l 8, gI l 9, gL l 10⟩
def Mst.toL (m : Mst) : List Dat := [.dI m.p0, .dI m.p1, .dI m.t0, .dI m.t1, .dB m.bad, .dI m.o0, .dI m.n0, .dL m.L0, .dI m.o1, .dI m.n1, .dL m.L1]
abbrev rhoQ (L : List (List Dat)) (k n2 t1 : Int) (i : Nat) (DA DB DM : List Dat) : Rho := ⟨fun j => bif Nat.blt j 5 then [Dat.dL L, .dI k, .dI n2, .dI t1, .dI i].getD j (.dI 0) else bif Nat.blt j 29 then DA.getD (j - 5) (.dI 0) else bif Nat.blt j 53 then DB.getD (j - 29) (.dI 0) else DM.getD (j - 53) (.dI 0), fnOf mSid⟩
/-- The invariant, of letters. -/
def IPr (L : List (List Dat)) (k n2 t1 : Int) (i : Nat) (ρ : Rho) : Prop := ∃ DA DB DM, ρ = rhoQ L k n2 t1 i DA DB DM ∧ DM.length = 11 ∧ PInv i (aOf DA) (aOf DB) (mOf DM) ∧ (aOf DA).k = k
abbrev opQ : Tm := .ib .rem .u8 (.lget (vt 0) (vt 4) 0) (.ci 9)
abbrev isQ (i : Int) : Tm := .ib .eql .u8 opQ (.ci i)
abbrev RETq : Tree (AX × Option Eqs) := .leaf (.ret, some [])
def kidQ (n : Bool) : Tree (AX × Option Eqs) → Tree (AX × Option Eqs)
  | .fork _ x y => bif n then x else y
  | t => t
def bodyQ (b : Bool) : Tree (AX × Option Eqs) := kidQ b (kidQ true (kidQ true rtPr))
def nthQ : Nat → Tree (AX × Option Eqs) → Tree (AX × Option Eqs)
  | 0, t => t
  | n + 1, t => nthQ n (kidQ false t)
def subQ (b : Bool) (n : Nat) : Tree (AX × Option Eqs) := bif Nat.beq n 8 then nthQ 8 (bodyQ b) else kidQ true (nthQ n (bodyQ b))
set_option maxRecDepth 100000 in
theorem rtPr_is : rtPr = .fork (.ib .lss .i64 (vt 4) (.llen (vt 0))) (.fork rtPr_0 (.fork (.lget (vt 0) (vt 4) 1) (bodyQ true) (bodyQ false)) .fail) (.leaf (.exit 0, some [])) := by kernel_rfl
set_option maxRecDepth 100000 in
theorem bodyQ_is (b : Bool) : bodyQ b = .fork (isQ 0) (subQ b 0) (.fork (isQ 1) (subQ b 1) (.fork (isQ 2) (subQ b 2) (.fork (isQ 3) (subQ b 3) (.fork (isQ 4) (subQ b 4) (.fork (isQ 5) (subQ b 5) (.fork (isQ 6) (subQ b 6) (.fork (isQ 7) (subQ b 7) (subQ b 8)))))))) := by
  cases b
  · kernel_rfl
  · kernel_rfl
section
variable {ρ ρ' : Rho}
theorem addT {x : Tm} {n : Int} (h : (@Tm.den ρ x).asI = n) (h0 : 0 ≤ n) (h1 : n ≤ 1000000) : (@Tm.den ρ (.ib .add .i64 x (.ci 1))).asI = n + 1 := by
  show IntKind.i64.wrap ((@Tm.den ρ x).asI + 1) = _
  rw [h, i64wrap (by omega) (by omega)]
theorem tail_np {a b : ASt} {m : Mst} {x1 x2 T0 P0 wA oA T1 P1 wB oB bd kk : Tm} {es : Eqs} {Q : Rho → Prop} (hf : ρ.fn = fnOf mSid) (R : Right a b m) (hp : m.p0 ≤ 1000000 ∧ m.p1 ≤ 1000000) (hk : (@Tm.den ρ kk).asI = a.k)
    (h1 : (@Tm.den ρ T0).asI = m.t0) (h2 : (@Tm.den ρ P0).asI = m.p0) (h3 : (@Tm.den ρ wA).asI = a.len) (h4 : (@Tm.den ρ oA).asI = a.out)
    (h5 : (@Tm.den ρ T1).asI = m.t1) (h6 : (@Tm.den ρ P1).asI = m.p1) (h7 : (@Tm.den ρ wB).asI = b.len) (h8 : (@Tm.den ρ oB).asI = b.out) (h9 : (@Tm.den ρ bd).asB = m.bad) (q : Q ρ') (he : EqsOk ρ' ρ es) :
    NxP ρ Q (.fork (.app 129 x1) (.fork (.ib .gtr .i64 T0 P0) RETq (.fork (.ib .gtr .i64 wA (.ci 7)) RETq (.fork (.ib .gtr .i64 oA wA) RETq (.fork (.ib .lss .i64 T0 (.ib .sub .i64 P0 wA)) RETq
      (.fork (.app 129 x2) (.fork (.ib .gtr .i64 T1 P1) RETq (.fork (.ib .gtr .i64 wB (.ci 7)) RETq (.fork (.ib .gtr .i64 oB wB) RETq (.fork (.ib .lss .i64 T1 (.ib .sub .i64 P1 wB)) RETq
        (.fork bd RETq (.fork (.ib .gtr .i64 wA kk) RETq (.fork (.ib .gtr .i64 wB kk) RETq (.leaf (.normal, some es))))))))) .fail))))) .fail) := by
  obtain ⟨r1, r2, r3, r4, r5, r6, r7, r8, r9, r10, r11, r12, r13, r14, r15⟩ := R
  have e1 : ∀ x, (@Tm.den ρ (.app 129 x)).asB = true := fun x => by rw [d_app, hf]; rfl
  refine npT (e1 _) (npF ?_ (npF ?_ (npF ?_ (npF ?_ (npT (e1 _) (npF ?_ (npF ?_ (npF ?_ (npF ?_ (npF ?_ (npF ?_ (npF ?_ (npL q he)))))))))))))
  · rw [gtr_f, h1, h2]; omega
  · rw [gtr_f, h3, d_ci]; omega
  · rw [gtr_f, h3, h4]; omega
  · rw [lss_f, d_sub, h1, h2, h3, i64wrap (by omega) (by omega)]; omega
  · rw [gtr_f, h5, h6]; omega
  · rw [gtr_f, h7, d_ci]; omega
  · rw [gtr_f, h7, h8]; omega
  · rw [lss_f, d_sub, h5, h6, h7, i64wrap (by omega) (by omega)]; omega
  · rw [h9]; exact r9
  · rw [gtr_f, h3, hk]; omega
  · rw [gtr_f, h7, hk]; omega
end
theorem eqW {α : Type} {x y u v : α} (h : u = v) (h1 : x = u) (h2 : y = v) : x = y := h1.trans (h.trans h2.symm)
def addW (x : Int) : Int := IntKind.i64.wrap (x + 1)
theorem addW_eq {x : Int} (h0 : 0 ≤ x) (h1 : x ≤ 1000000) : addW x = x + 1 := i64wrap (by omega) (by omega)
theorem PInv.bd {N : Int} {a b : ASt} {m : Mst} (h : PInv N a b m) : 0 ≤ m.p0 ∧ m.p0 ≤ N ∧ 0 ≤ m.p1 ∧ m.p1 ≤ N ∧ 0 ≤ m.t0 ∧ m.t0 ≤ N ∧ 0 ≤ m.t1 ∧ m.t1 ≤ N := by
  obtain ⟨sA, sB, h1, h2, h3, h4, h5, h6, h7, h8⟩ := h
  have a1 := h1.acked0; have a2 := h1.sent0; have a3 := h1.top0; have a4 := h1.len0; have a5 := h1.lenN; have a6 := h1.got0; have a7 := h1.gotN
  have b1 := h2.acked0; have b2 := h2.sent0; have b3 := h2.top0; have b4 := h2.len0; have b5 := h2.lenN; have b6 := h2.got0; have b7 := h2.gotN
  have c1 := h3.hp; have c2 := h3.ht; have c3 := h4.hp; have c4 := h4.ht
  omega
theorem dPush {N : Int} {a b : ASt} {m : Mst} (h : PInv N a b m) : decide (0 ≤ a.len ∧ a.len < 1000 ∧ a.off + a.len ≤ (a.L.length : Int) ∧ 0 ≤ a.off) = true := by
  obtain ⟨sA, sB, h1, h2, h3, h4, h5, h6, h7, h8⟩ := h
  have a1 := h1.len; have a2 := h1.lenk; have a3 := h1.k7; have a4 := h1.sent0; have a5 := h1.top0; have a6 := h1.len0; have a7 := h1.aoff; have a8 := h1.aL
  exact decide_eq_true (by omega)
theorem dNext {N : Int} {a b : ASt} {m : Mst} (h : PInv N a b m) : decide (0 ≤ a.out ∧ a.out ≤ 100 ∧ 0 ≤ a.len ∧ 0 ≤ a.off) = true := by
  obtain ⟨sA, sB, h1, h2, h3, h4, h5, h6, h7, h8⟩ := h
  have a1 := h1.len; have a2 := h1.lenk; have a3 := h1.k7; have a4 := h1.sent0; have a5 := h1.top0; have a6 := h1.len0; have a7 := h1.aoff; have a8 := h1.out
  exact decide_eq_true (by omega)
theorem dHear {N : Int} {a b : ASt} {m : Mst} (h : PInv N a b m) : decide (0 ≤ b.out ∧ b.out ≤ 100 ∧ 0 ≤ b.high ∧ b.high ≤ b.len ∧ b.high ≤ 7) = true := by
  obtain ⟨sA, sB, h1, h2, h3, h4, h5, h6, h7, h8⟩ := h
  have a1 := h2.len; have a2 := h2.lenk; have a3 := h2.k7; have a4 := h2.sent0; have a5 := h2.top0; have a6 := h2.len0; have a7 := h2.high; have a8 := h2.out
  exact decide_eq_true (by omega)
theorem dTick {N : Int} {a b : ASt} {m : Mst} (h : PInv N a b m) : decide (0 ≤ a.tries ∧ a.tries ≤ 1000 ∧ 0 ≤ a.left ∧ a.left ≤ 1000) = true := by
  obtain ⟨sA, sB, h1, h2, h3, h4, h5, h6, h7, h8⟩ := h
  have b1 := h1.tries0; have b2 := h1.tries2; have b3 := h1.n2; have b4 := h1.left0; have b5 := h1.left2
  exact decide_eq_true (by omega)
theorem dLine {N : Int} {a b : ASt} {m : Mst} (h : PInv N a b m) : 0 ≤ m.n0 ∧ m.n0 ≤ N := by
  obtain ⟨sA, sB, h1, h2, h3, h4, h5, h6, h7, h8⟩ := h
  exact ⟨h6.hn, h6.nN⟩
theorem push_k (a : ASt) (d : Dat) : (a.push d).2.k = a.k := by
  unfold ASt.push
  split
  · rfl
  · split <;> rfl
theorem ASt.pushW_k (a : ASt) (d : Dat) : (a.pushW d).k = a.k := rfl
theorem ASt.nextW_k (a : ASt) : a.nextW.k = a.k := rfl
theorem ASt.hearTo_k (a b : ASt) : (a.hearTo b).k = a.k := rfl
theorem ASt.tickW_k (a : ASt) : a.tickW.k = a.k := rfl
theorem ASt.busyW_k (a : ASt) (b : Bool) : (a.busyW b).k = a.k := rfl
section
variable {L : List (List Dat)} {k n2 t1 N : Int} {i : Nat} {DA DB DM : List Dat}
theorem addQ (h : i ≤ 1000) {ρ' : Rho} (e : (ρ'.val 4).asI = ((i + 1 : Nat) : Int)) : (@Tm.den ρ' (vt 4)).asI = (@Tm.den (rhoQ L k n2 t1 i DA DB DM) (.ib .add .i64 (vt 4) (.ci 1))).asI := by
  show (ρ'.val 4).asI = IntKind.i64.wrap ((i : Int) + 1)
  rw [e, i64wrap (by omega) (by omega)]
  omega
theorem qPr {a b : ASt} {m : Mst} (h : PInv (i + 1) a b m) (hk : a.k = k) : IPr L k n2 t1 (i + 1) (rhoQ L k n2 t1 (i + 1) a.toL b.toL m.toL) :=
  ⟨_, _, _, rfl, rfl, h, hk⟩
theorem pushF0_np (h : PInv i (aOf DA) (aOf DB) (mOf DM)) (hN : i ≤ 400) (hk : (aOf DA).k = k) : NxP (rhoQ L k n2 t1 i DA DB DM) (IPr L k n2 t1 (i + 1)) (subQ false 0) := by
  have e := addW_eq (x := (mOf DM).p0) (by have := h.bd; omega) (by have := h.bd; omega)
  obtain ⟨p1, p2⟩ := (h).push
  rw [ASt.push_w] at p1 p2
  refine npT (eqW (dPush h) (by kernel_rfl) (by kernel_rfl)) (npC (fun c => ?_) (fun c => ?_))
  · have c' : ((aOf DA).push (.dS (infoB (mOf DM).p0))).1 = 0 := by rw [eql_t] at c; exact eqW c (by kernel_rfl) (by kernel_rfl)
    have R : PInv (i + 1) ((aOf DA).pushW (.dS (infoB (mOf DM).p0))) (aOf DB) { (mOf DM) with p0 := addW (mOf DM).p0 } := by rw [e]; exact p1 c'
    exact (tail_np (a := ((aOf DA).pushW (.dS (infoB (mOf DM).p0)))) (b := (aOf DB)) (m := { (mOf DM) with p0 := addW (mOf DM).p0 }) (by kernel_rfl) R.right ⟨by have := R.bd; omega, by have := R.bd; omega⟩ (eqW ((ASt.pushW_k (aOf DA) (.dS (infoB (mOf DM).p0))).trans hk).symm (by kernel_rfl) (by kernel_rfl)) (by kernel_rfl) (by kernel_rfl) (by kernel_rfl) (by kernel_rfl) (by kernel_rfl) (by kernel_rfl) (by kernel_rfl) (by kernel_rfl) (by kernel_rfl) (qPr R ((ASt.pushW_k (aOf DA) (.dS (infoB (mOf DM).p0))).trans hk)) ((eI _ _ _ _).2 ⟨addQ (by omega) (by kernel_rfl), by
      simp only [eI, eB, eS, eL, eN, and_true]
      repeat' apply And.intro
      all_goals kernel_rfl⟩))
  · have c' : ((aOf DA).push (.dS (infoB (mOf DM).p0))).1 ≠ 0 := fun x => by
      rw [eql_f] at c
      exact c (eqW x (by kernel_rfl) (by kernel_rfl))
    have R : PInv (i + 1) ((aOf DA).pushW (.dS (infoB (mOf DM).p0))) (aOf DB) (mOf DM) := p2 c'
    exact (tail_np (a := ((aOf DA).pushW (.dS (infoB (mOf DM).p0)))) (b := (aOf DB)) (m := (mOf DM)) (by kernel_rfl) R.right ⟨by have := R.bd; omega, by have := R.bd; omega⟩ (eqW ((ASt.pushW_k (aOf DA) (.dS (infoB (mOf DM).p0))).trans hk).symm (by kernel_rfl) (by kernel_rfl)) (by kernel_rfl) (by kernel_rfl) (by kernel_rfl) (by kernel_rfl) (by kernel_rfl) (by kernel_rfl) (by kernel_rfl) (by kernel_rfl) (by kernel_rfl) (qPr R ((ASt.pushW_k (aOf DA) (.dS (infoB (mOf DM).p0))).trans hk)) ((eI _ _ _ _).2 ⟨addQ (by omega) (by kernel_rfl), by
      simp only [eI, eB, eS, eL, eN, and_true]
      repeat' apply And.intro
      all_goals kernel_rfl⟩))
theorem pushF1_np (h : PInv i (aOf DA) (aOf DB) (mOf DM)) (hN : i ≤ 400) (hk : (aOf DA).k = k) : NxP (rhoQ L k n2 t1 i DA DB DM) (IPr L k n2 t1 (i + 1)) (subQ false 1) := by
  have e := addW_eq (x := (mOf DM).p0) (by have := h.bd; omega) (by have := h.bd; omega)
  obtain ⟨p1, p2⟩ := (h).push
  rw [ASt.push_w] at p1 p2
  refine npT (eqW (dPush h) (by kernel_rfl) (by kernel_rfl)) (npC (fun c => ?_) (fun c => ?_))
  · have c' : ((aOf DA).push (.dS (infoB (mOf DM).p0))).1 = 0 := by rw [eql_t] at c; exact eqW c (by kernel_rfl) (by kernel_rfl)
    have R : PInv (i + 1) ((aOf DA).pushW (.dS (infoB (mOf DM).p0))) (aOf DB) { (mOf DM) with p0 := addW (mOf DM).p0 } := by rw [e]; exact p1 c'
    exact (tail_np (a := ((aOf DA).pushW (.dS (infoB (mOf DM).p0)))) (b := (aOf DB)) (m := { (mOf DM) with p0 := addW (mOf DM).p0 }) (by kernel_rfl) R.right ⟨by have := R.bd; omega, by have := R.bd; omega⟩ (eqW ((ASt.pushW_k (aOf DA) (.dS (infoB (mOf DM).p0))).trans hk).symm (by kernel_rfl) (by kernel_rfl)) (by kernel_rfl) (by kernel_rfl) (by kernel_rfl) (by kernel_rfl) (by kernel_rfl) (by kernel_rfl) (by kernel_rfl) (by kernel_rfl) (by kernel_rfl) (qPr R ((ASt.pushW_k (aOf DA) (.dS (infoB (mOf DM).p0))).trans hk)) ((eI _ _ _ _).2 ⟨addQ (by omega) (by kernel_rfl), by
      simp only [eI, eB, eS, eL, eN, and_true]
      repeat' apply And.intro
      all_goals kernel_rfl⟩))
  · have c' : ((aOf DA).push (.dS (infoB (mOf DM).p0))).1 ≠ 0 := fun x => by
      rw [eql_f] at c
      exact c (eqW x (by kernel_rfl) (by kernel_rfl))
    have R : PInv (i + 1) ((aOf DA).pushW (.dS (infoB (mOf DM).p0))) (aOf DB) (mOf DM) := p2 c'
    exact (tail_np (a := ((aOf DA).pushW (.dS (infoB (mOf DM).p0)))) (b := (aOf DB)) (m := (mOf DM)) (by kernel_rfl) R.right ⟨by have := R.bd; omega, by have := R.bd; omega⟩ (eqW ((ASt.pushW_k (aOf DA) (.dS (infoB (mOf DM).p0))).trans hk).symm (by kernel_rfl) (by kernel_rfl)) (by kernel_rfl) (by kernel_rfl) (by kernel_rfl) (by kernel_rfl) (by kernel_rfl) (by kernel_rfl) (by kernel_rfl) (by kernel_rfl) (by kernel_rfl) (qPr R ((ASt.pushW_k (aOf DA) (.dS (infoB (mOf DM).p0))).trans hk)) ((eI _ _ _ _).2 ⟨addQ (by omega) (by kernel_rfl), by
      simp only [eI, eB, eS, eL, eN, and_true]
      repeat' apply And.intro
      all_goals kernel_rfl⟩))
theorem sendF2_np (h : PInv i (aOf DA) (aOf DB) (mOf DM)) (hN : i ≤ 400) (hk : (aOf DA).k = k) : NxP (rhoQ L k n2 t1 i DA DB DM) (IPr L k n2 t1 (i + 1)) (subQ false 2) := by
  obtain ⟨p1, p2⟩ := (h).send
  rw [ASt.next_w] at p1 p2
  refine npT (eqW (dNext h) (by kernel_rfl) (by kernel_rfl)) (npC (fun c => npT ?_ ?_) (fun c => ?_))
  · rw [lss_t]
    have hl := dLine (h)
    have e : (@Tm.den (rhoQ L k n2 t1 i DA DB DM) (vt 59)).asI = (mOf DM).n0 := by kernel_rfl
    have hl2 : 0 ≤ (mOf DM).n0 ∧ (mOf DM).n0 ≤ i := hl
    rw [e, d_ci]; omega
  · have c' : (aOf DA).next.2.1 = true := eqW c (by kernel_rfl) (by kernel_rfl)
    have R : PInv (i + 1) (aOf DA).nextW (aOf DB) { (mOf DM) with o0 := 0, n0 := ((rowsOf (mOf DM).o0 (mOf DM).n0 (mOf DM).L0 ++ [frD (aOf DA).next.1]).length : Int), L0 := rowsOf (mOf DM).o0 (mOf DM).n0 (mOf DM).L0 ++ [frD (aOf DA).next.1] } := p1 c'
    exact (tail_np (a := (aOf DA).nextW) (b := (aOf DB)) (m := { (mOf DM) with o0 := 0, n0 := ((rowsOf (mOf DM).o0 (mOf DM).n0 (mOf DM).L0 ++ [frD (aOf DA).next.1]).length : Int), L0 := rowsOf (mOf DM).o0 (mOf DM).n0 (mOf DM).L0 ++ [frD (aOf DA).next.1] }) (by kernel_rfl) R.right ⟨by have := R.bd; omega, by have := R.bd; omega⟩ (eqW ((ASt.nextW_k _).trans hk).symm (by kernel_rfl) (by kernel_rfl)) (by kernel_rfl) (by kernel_rfl) (by kernel_rfl) (by kernel_rfl) (by kernel_rfl) (by kernel_rfl) (by kernel_rfl) (by kernel_rfl) (by kernel_rfl) (qPr R ((ASt.nextW_k _).trans hk)) ((eI _ _ _ _).2 ⟨addQ (by omega) (by kernel_rfl), by
      simp only [eI, eB, eS, eL, eN, and_true]
      repeat' apply And.intro
      all_goals kernel_rfl⟩))
  · have c' : (aOf DA).next.2.1 = false := eqW c (by kernel_rfl) (by kernel_rfl)
    have R : PInv (i + 1) (aOf DA).nextW (aOf DB) (mOf DM) := p2 c'
    exact (tail_np (a := (aOf DA).nextW) (b := (aOf DB)) (m := (mOf DM)) (by kernel_rfl) R.right ⟨by have := R.bd; omega, by have := R.bd; omega⟩ (eqW ((ASt.nextW_k _).trans hk).symm (by kernel_rfl) (by kernel_rfl)) (by kernel_rfl) (by kernel_rfl) (by kernel_rfl) (by kernel_rfl) (by kernel_rfl) (by kernel_rfl) (by kernel_rfl) (by kernel_rfl) (by kernel_rfl) (qPr R ((ASt.nextW_k _).trans hk)) ((eI _ _ _ _).2 ⟨addQ (by omega) (by kernel_rfl), by
      simp only [eI, eB, eS, eL, eN, and_true]
      repeat' apply And.intro
      all_goals kernel_rfl⟩))
theorem sendF3_np (h : PInv i (aOf DA) (aOf DB) (mOf DM)) (hN : i ≤ 400) (hk : (aOf DA).k = k) : NxP (rhoQ L k n2 t1 i DA DB DM) (IPr L k n2 t1 (i + 1)) (subQ false 3) := by
  obtain ⟨p1, p2⟩ := (h).send
  rw [ASt.next_w] at p1 p2
  refine npT (eqW (dNext h) (by kernel_rfl) (by kernel_rfl)) (npC (fun c => npT ?_ ?_) (fun c => ?_))
  · rw [lss_t]
    have hl := dLine (h)
    have e : (@Tm.den (rhoQ L k n2 t1 i DA DB DM) (vt 59)).asI = (mOf DM).n0 := by kernel_rfl
    have hl2 : 0 ≤ (mOf DM).n0 ∧ (mOf DM).n0 ≤ i := hl
    rw [e, d_ci]; omega
  · have c' : (aOf DA).next.2.1 = true := eqW c (by kernel_rfl) (by kernel_rfl)
    have R : PInv (i + 1) (aOf DA).nextW (aOf DB) { (mOf DM) with o0 := 0, n0 := ((rowsOf (mOf DM).o0 (mOf DM).n0 (mOf DM).L0 ++ [frD (aOf DA).next.1]).length : Int), L0 := rowsOf (mOf DM).o0 (mOf DM).n0 (mOf DM).L0 ++ [frD (aOf DA).next.1] } := p1 c'
    exact (tail_np (a := (aOf DA).nextW) (b := (aOf DB)) (m := { (mOf DM) with o0 := 0, n0 := ((rowsOf (mOf DM).o0 (mOf DM).n0 (mOf DM).L0 ++ [frD (aOf DA).next.1]).length : Int), L0 := rowsOf (mOf DM).o0 (mOf DM).n0 (mOf DM).L0 ++ [frD (aOf DA).next.1] }) (by kernel_rfl) R.right ⟨by have := R.bd; omega, by have := R.bd; omega⟩ (eqW ((ASt.nextW_k _).trans hk).symm (by kernel_rfl) (by kernel_rfl)) (by kernel_rfl) (by kernel_rfl) (by kernel_rfl) (by kernel_rfl) (by kernel_rfl) (by kernel_rfl) (by kernel_rfl) (by kernel_rfl) (by kernel_rfl) (qPr R ((ASt.nextW_k _).trans hk)) ((eI _ _ _ _).2 ⟨addQ (by omega) (by kernel_rfl), by
      simp only [eI, eB, eS, eL, eN, and_true]
      repeat' apply And.intro
      all_goals kernel_rfl⟩))
  · have c' : (aOf DA).next.2.1 = false := eqW c (by kernel_rfl) (by kernel_rfl)
    have R : PInv (i + 1) (aOf DA).nextW (aOf DB) (mOf DM) := p2 c'
    exact (tail_np (a := (aOf DA).nextW) (b := (aOf DB)) (m := (mOf DM)) (by kernel_rfl) R.right ⟨by have := R.bd; omega, by have := R.bd; omega⟩ (eqW ((ASt.nextW_k _).trans hk).symm (by kernel_rfl) (by kernel_rfl)) (by kernel_rfl) (by kernel_rfl) (by kernel_rfl) (by kernel_rfl) (by kernel_rfl) (by kernel_rfl) (by kernel_rfl) (by kernel_rfl) (by kernel_rfl) (qPr R ((ASt.nextW_k _).trans hk)) ((eI _ _ _ _).2 ⟨addQ (by omega) (by kernel_rfl), by
      simp only [eI, eB, eS, eL, eN, and_true]
      repeat' apply And.intro
      all_goals kernel_rfl⟩))
theorem handF4_np (h : PInv i (aOf DA) (aOf DB) (mOf DM)) (hN : i ≤ 400) (hk : (aOf DA).k = k) : NxP (rhoQ L k n2 t1 i DA DB DM) (IPr L k n2 t1 (i + 1)) (subQ false 4) := by
  have e := addW_eq (x := (mOf DM).t0) (by have := h.bd; omega) (by have := h.bd; omega)
  have en : (@Tm.den (rhoQ L k n2 t1 i DA DB DM) (vt 59)).asI = (mOf DM).n0 := by kernel_rfl
  refine npC (fun c => ?_) (fun c => ?_)
  · have R : PInv (i + 1) (aOf DA) (aOf DB) (mOf DM) := h.mono (by omega)
    exact (tail_np (a := (aOf DA)) (b := (aOf DB)) (m := (mOf DM)) (by kernel_rfl) R.right ⟨by have := R.bd; omega, by have := R.bd; omega⟩ (eqW hk.symm (by kernel_rfl) (by kernel_rfl)) (by kernel_rfl) (by kernel_rfl) (by kernel_rfl) (by kernel_rfl) (by kernel_rfl) (by kernel_rfl) (by kernel_rfl) (by kernel_rfl) (by kernel_rfl) (qPr R hk) ((eI _ _ _ _).2 ⟨addQ (by omega) (by kernel_rfl), by
      simp only [eI, eB, eS, eL, eN, and_true]
      repeat' apply And.intro
      all_goals kernel_rfl⟩))
  · have c0 : 0 < (mOf DM).n0 := by
      have hl : 0 ≤ (mOf DM).n0 ∧ (mOf DM).n0 ≤ i := dLine (h)
      rw [eql_f, en, d_ci] at c
      omega
    obtain ⟨p1, p2, p3⟩ := (h).hand2 c0
    rw [ASt.hear_w] at p2 p3
    refine npT ?_ (npT ?_ (npT (eqW (dHear (h)) (by kernel_rfl) (by kernel_rfl)) (npF (eqW p1 (by kernel_rfl) (by kernel_rfl)) (npC (fun c => ?_) (fun c => ?_)))))
    · rw [lss_t, en, d_ci]; omega
    · rw [leq_t, en, d_ci]; omega
    · have c' : ((aOf DB).hear (frOf ((mOf DM).L0.getD (mOf DM).o0.toNat []) 0)).1.taken = true := eqW c (by kernel_rfl) (by kernel_rfl)
      have R : PInv (i + 1) (aOf DA) ((aOf DB).hearTo ((aOf DB).hear (frOf ((mOf DM).L0.getD (mOf DM).o0.toNat []) 0)).2) { (mOf DM) with o0 := (mOf DM).o0 + 1, n0 := (mOf DM).n0 - 1, t0 := addW (mOf DM).t0 } := by
        rw [e]
        exact (p2 c').2
      refine npF ?_ ?_
      · have p5 := (p2 c').1
        have hs : ∀ x y : Tm, (@Tm.den (rhoQ L k n2 t1 i DA DB DM) x).asS = (@Tm.den (rhoQ L k n2 t1 i DA DB DM) y).asS → (@Tm.den (rhoQ L k n2 t1 i DA DB DM) (.sb .neq x y)).asB = false := fun x y hxy => by
          show (!((@Tm.den (rhoQ L k n2 t1 i DA DB DM) x).asS == (@Tm.den (rhoQ L k n2 t1 i DA DB DM) y).asS)) = false
          rw [hxy]; simp
        exact hs _ _ (eqW p5 (by kernel_rfl) (by kernel_rfl))
      · exact (tail_np (a := (aOf DA)) (b := ((aOf DB).hearTo ((aOf DB).hear (frOf ((mOf DM).L0.getD (mOf DM).o0.toNat []) 0)).2)) (m := { (mOf DM) with o0 := (mOf DM).o0 + 1, n0 := (mOf DM).n0 - 1, t0 := addW (mOf DM).t0 }) (by kernel_rfl) R.right ⟨by have := R.bd; omega, by have := R.bd; omega⟩ (eqW hk.symm (by kernel_rfl) (by kernel_rfl)) (by kernel_rfl) (by kernel_rfl) (by kernel_rfl) (by kernel_rfl) (by kernel_rfl) (by kernel_rfl) (by kernel_rfl) (by kernel_rfl) (by kernel_rfl) (qPr R hk) ((eI _ _ _ _).2 ⟨addQ (by omega) (by kernel_rfl), by
      simp only [eI, eB, eS, eL, eN, and_true]
      repeat' apply And.intro
      all_goals kernel_rfl⟩))
    · have c' : ((aOf DB).hear (frOf ((mOf DM).L0.getD (mOf DM).o0.toNat []) 0)).1.taken = false := eqW c (by kernel_rfl) (by kernel_rfl)
      have R : PInv (i + 1) (aOf DA) ((aOf DB).hearTo ((aOf DB).hear (frOf ((mOf DM).L0.getD (mOf DM).o0.toNat []) 0)).2) { (mOf DM) with o0 := (mOf DM).o0 + 1, n0 := (mOf DM).n0 - 1 } := by
        exact p3 c'
      exact (tail_np (a := (aOf DA)) (b := ((aOf DB).hearTo ((aOf DB).hear (frOf ((mOf DM).L0.getD (mOf DM).o0.toNat []) 0)).2)) (m := { (mOf DM) with o0 := (mOf DM).o0 + 1, n0 := (mOf DM).n0 - 1 }) (by kernel_rfl) R.right ⟨by have := R.bd; omega, by have := R.bd; omega⟩ (eqW hk.symm (by kernel_rfl) (by kernel_rfl)) (by kernel_rfl) (by kernel_rfl) (by kernel_rfl) (by kernel_rfl) (by kernel_rfl) (by kernel_rfl) (by kernel_rfl) (by kernel_rfl) (by kernel_rfl) (qPr R hk) ((eI _ _ _ _).2 ⟨addQ (by omega) (by kernel_rfl), by
      simp only [eI, eB, eS, eL, eN, and_true]
      repeat' apply And.intro
      all_goals kernel_rfl⟩))
theorem handF5_np (h : PInv i (aOf DA) (aOf DB) (mOf DM)) (hN : i ≤ 400) (hk : (aOf DA).k = k) : NxP (rhoQ L k n2 t1 i DA DB DM) (IPr L k n2 t1 (i + 1)) (subQ false 5) := by
  have e := addW_eq (x := (mOf DM).t0) (by have := h.bd; omega) (by have := h.bd; omega)
  have en : (@Tm.den (rhoQ L k n2 t1 i DA DB DM) (vt 59)).asI = (mOf DM).n0 := by kernel_rfl
  refine npC (fun c => ?_) (fun c => ?_)
  · have R : PInv (i + 1) (aOf DA) (aOf DB) (mOf DM) := h.mono (by omega)
    exact (tail_np (a := (aOf DA)) (b := (aOf DB)) (m := (mOf DM)) (by kernel_rfl) R.right ⟨by have := R.bd; omega, by have := R.bd; omega⟩ (eqW hk.symm (by kernel_rfl) (by kernel_rfl)) (by kernel_rfl) (by kernel_rfl) (by kernel_rfl) (by kernel_rfl) (by kernel_rfl) (by kernel_rfl) (by kernel_rfl) (by kernel_rfl) (by kernel_rfl) (qPr R hk) ((eI _ _ _ _).2 ⟨addQ (by omega) (by kernel_rfl), by
      simp only [eI, eB, eS, eL, eN, and_true]
      repeat' apply And.intro
      all_goals kernel_rfl⟩))
  · have c0 : 0 < (mOf DM).n0 := by
      have hl : 0 ≤ (mOf DM).n0 ∧ (mOf DM).n0 ≤ i := dLine (h)
      rw [eql_f, en, d_ci] at c
      omega
    obtain ⟨p1, p2, p3⟩ := (h).hand2 c0
    rw [ASt.hear_w] at p2 p3
    refine npT ?_ (npT ?_ (npT (eqW (dHear (h)) (by kernel_rfl) (by kernel_rfl)) (npF (eqW p1 (by kernel_rfl) (by kernel_rfl)) (npC (fun c => ?_) (fun c => ?_)))))
    · rw [lss_t, en, d_ci]; omega
    · rw [leq_t, en, d_ci]; omega
    · have c' : ((aOf DB).hear (frOf ((mOf DM).L0.getD (mOf DM).o0.toNat []) 0)).1.taken = true := eqW c (by kernel_rfl) (by kernel_rfl)
      have R : PInv (i + 1) (aOf DA) ((aOf DB).hearTo ((aOf DB).hear (frOf ((mOf DM).L0.getD (mOf DM).o0.toNat []) 0)).2) { (mOf DM) with o0 := (mOf DM).o0 + 1, n0 := (mOf DM).n0 - 1, t0 := addW (mOf DM).t0 } := by
        rw [e]
        exact (p2 c').2
      refine npF ?_ ?_
      · have p5 := (p2 c').1
        have hs : ∀ x y : Tm, (@Tm.den (rhoQ L k n2 t1 i DA DB DM) x).asS = (@Tm.den (rhoQ L k n2 t1 i DA DB DM) y).asS → (@Tm.den (rhoQ L k n2 t1 i DA DB DM) (.sb .neq x y)).asB = false := fun x y hxy => by
          show (!((@Tm.den (rhoQ L k n2 t1 i DA DB DM) x).asS == (@Tm.den (rhoQ L k n2 t1 i DA DB DM) y).asS)) = false
          rw [hxy]; simp
        exact hs _ _ (eqW p5 (by kernel_rfl) (by kernel_rfl))
      · exact (tail_np (a := (aOf DA)) (b := ((aOf DB).hearTo ((aOf DB).hear (frOf ((mOf DM).L0.getD (mOf DM).o0.toNat []) 0)).2)) (m := { (mOf DM) with o0 := (mOf DM).o0 + 1, n0 := (mOf DM).n0 - 1, t0 := addW (mOf DM).t0 }) (by kernel_rfl) R.right ⟨by have := R.bd; omega, by have := R.bd; omega⟩ (eqW hk.symm (by kernel_rfl) (by kernel_rfl)) (by kernel_rfl) (by kernel_rfl) (by kernel_rfl) (by kernel_rfl) (by kernel_rfl) (by kernel_rfl) (by kernel_rfl) (by kernel_rfl) (by kernel_rfl) (qPr R hk) ((eI _ _ _ _).2 ⟨addQ (by omega) (by kernel_rfl), by
      simp only [eI, eB, eS, eL, eN, and_true]
      repeat' apply And.intro
      all_goals kernel_rfl⟩))
    · have c' : ((aOf DB).hear (frOf ((mOf DM).L0.getD (mOf DM).o0.toNat []) 0)).1.taken = false := eqW c (by kernel_rfl) (by kernel_rfl)
      have R : PInv (i + 1) (aOf DA) ((aOf DB).hearTo ((aOf DB).hear (frOf ((mOf DM).L0.getD (mOf DM).o0.toNat []) 0)).2) { (mOf DM) with o0 := (mOf DM).o0 + 1, n0 := (mOf DM).n0 - 1 } := by
        exact p3 c'
      exact (tail_np (a := (aOf DA)) (b := ((aOf DB).hearTo ((aOf DB).hear (frOf ((mOf DM).L0.getD (mOf DM).o0.toNat []) 0)).2)) (m := { (mOf DM) with o0 := (mOf DM).o0 + 1, n0 := (mOf DM).n0 - 1 }) (by kernel_rfl) R.right ⟨by have := R.bd; omega, by have := R.bd; omega⟩ (eqW hk.symm (by kernel_rfl) (by kernel_rfl)) (by kernel_rfl) (by kernel_rfl) (by kernel_rfl) (by kernel_rfl) (by kernel_rfl) (by kernel_rfl) (by kernel_rfl) (by kernel_rfl) (by kernel_rfl) (qPr R hk) ((eI _ _ _ _).2 ⟨addQ (by omega) (by kernel_rfl), by
      simp only [eI, eB, eS, eL, eN, and_true]
      repeat' apply And.intro
      all_goals kernel_rfl⟩))
theorem loseF_np (h : PInv i (aOf DA) (aOf DB) (mOf DM)) (hN : i ≤ 400) (hk : (aOf DA).k = k) : NxP (rhoQ L k n2 t1 i DA DB DM) (IPr L k n2 t1 (i + 1)) (subQ false 6) := by
  have en : (@Tm.den (rhoQ L k n2 t1 i DA DB DM) (vt 59)).asI = (mOf DM).n0 := by kernel_rfl
  refine npC (fun c => ?_) (fun c => ?_)
  · have R : PInv (i + 1) (aOf DA) (aOf DB) (mOf DM) := h.mono (by omega)
    exact (tail_np (a := (aOf DA)) (b := (aOf DB)) (m := (mOf DM)) (by kernel_rfl) R.right ⟨by have := R.bd; omega, by have := R.bd; omega⟩ (eqW hk.symm (by kernel_rfl) (by kernel_rfl)) (by kernel_rfl) (by kernel_rfl) (by kernel_rfl) (by kernel_rfl) (by kernel_rfl) (by kernel_rfl) (by kernel_rfl) (by kernel_rfl) (by kernel_rfl) (qPr R hk) ((eI _ _ _ _).2 ⟨addQ (by omega) (by kernel_rfl), by
      simp only [eI, eB, eS, eL, eN, and_true]
      repeat' apply And.intro
      all_goals kernel_rfl⟩))
  · have c0 : 0 < (mOf DM).n0 := by
      have hl : 0 ≤ (mOf DM).n0 ∧ (mOf DM).n0 ≤ i := dLine (h)
      rw [eql_f, en, d_ci] at c
      omega
    have R : PInv (i + 1) (aOf DA) (aOf DB) { (mOf DM) with o0 := (mOf DM).o0 + 1, n0 := (mOf DM).n0 - 1 } := (h).lose c0
    refine npT ?_ (npT ?_ ?_)
    · rw [lss_t, en, d_ci]; omega
    · rw [leq_t, en, d_ci]; omega
    · exact (tail_np (a := (aOf DA)) (b := (aOf DB)) (m := { (mOf DM) with o0 := (mOf DM).o0 + 1, n0 := (mOf DM).n0 - 1 }) (by kernel_rfl) R.right ⟨by have := R.bd; omega, by have := R.bd; omega⟩ (eqW hk.symm (by kernel_rfl) (by kernel_rfl)) (by kernel_rfl) (by kernel_rfl) (by kernel_rfl) (by kernel_rfl) (by kernel_rfl) (by kernel_rfl) (by kernel_rfl) (by kernel_rfl) (by kernel_rfl) (qPr R hk) ((eI _ _ _ _).2 ⟨addQ (by omega) (by kernel_rfl), by
      simp only [eI, eB, eS, eL, eN, and_true]
      repeat' apply And.intro
      all_goals kernel_rfl⟩))
theorem tickF_np (h : PInv i (aOf DA) (aOf DB) (mOf DM)) (hN : i ≤ 400) (hk : (aOf DA).k = k) : NxP (rhoQ L k n2 t1 i DA DB DM) (IPr L k n2 t1 (i + 1)) (subQ false 7) := by
  have R : PInv (i + 1) (aOf DA).tickW (aOf DB).tickW (mOf DM) := by
    rw [← ASt.tick_w, ← ASt.tick_w]; exact h.tick
  exact npT (eqW (dTick h) (by kernel_rfl) (by kernel_rfl)) (npT (eqW (dTick h.swap) (by kernel_rfl) (by kernel_rfl)) (tail_np (a := (aOf DA).tickW) (b := (aOf DB).tickW) (m := (mOf DM)) (by kernel_rfl) R.right ⟨by have := R.bd; omega, by have := R.bd; omega⟩ (eqW ((ASt.tickW_k _).trans hk).symm (by kernel_rfl) (by kernel_rfl)) (by kernel_rfl) (by kernel_rfl) (by kernel_rfl) (by kernel_rfl) (by kernel_rfl) (by kernel_rfl) (by kernel_rfl) (by kernel_rfl) (by kernel_rfl) (qPr R ((ASt.tickW_k _).trans hk)) ((eI _ _ _ _).2 ⟨addQ (by omega) (by kernel_rfl), by
      simp only [eI, eB, eS, eL, eN, and_true]
      repeat' apply And.intro
      all_goals kernel_rfl⟩)))
theorem busyF_np (h : PInv i (aOf DA) (aOf DB) (mOf DM)) (hN : i ≤ 400) (hk : (aOf DA).k = k) : NxP (rhoQ L k n2 t1 i DA DB DM) (IPr L k n2 t1 (i + 1)) (subQ false 8) := by
  have R : PInv (i + 1) ((aOf DA).busyW (gB (L.getD i []) 2)) (aOf DB) (mOf DM) := by
    rw [← ASt.busy_w]; exact (h).busy _
  exact npT (by kernel_rfl) (tail_np (a := ((aOf DA).busyW (gB (L.getD i []) 2))) (b := (aOf DB)) (m := (mOf DM)) (by kernel_rfl) R.right ⟨by have := R.bd; omega, by have := R.bd; omega⟩ (eqW ((ASt.busyW_k (aOf DA) (gB (L.getD i []) 2)).trans hk).symm (by kernel_rfl) (by kernel_rfl)) (by kernel_rfl) (by kernel_rfl) (by kernel_rfl) (by kernel_rfl) (by kernel_rfl) (by kernel_rfl) (by kernel_rfl) (by kernel_rfl) (by kernel_rfl) (qPr R ((ASt.busyW_k (aOf DA) (gB (L.getD i []) 2)).trans hk)) ((eI _ _ _ _).2 ⟨addQ (by omega) (by kernel_rfl), by
      simp only [eI, eB, eS, eL, eN, and_true]
      repeat' apply And.intro
      all_goals kernel_rfl⟩))
theorem pushT0_np (h : PInv i (aOf DA) (aOf DB) (mOf DM)) (hN : i ≤ 400) (hk : (aOf DA).k = k) : NxP (rhoQ L k n2 t1 i DA DB DM) (IPr L k n2 t1 (i + 1)) (subQ true 0) := by
  have e := addW_eq (x := (mOf DM).p1) (by have := h.bd; omega) (by have := h.bd; omega)
  obtain ⟨p1, p2⟩ := (h.swap).push
  rw [ASt.push_w] at p1 p2
  refine npT (eqW (dPush h.swap) (by kernel_rfl) (by kernel_rfl)) (npC (fun c => ?_) (fun c => ?_))
  · have c' : ((aOf DB).push (.dS (infoB (mOf DM).p1))).1 = 0 := by rw [eql_t] at c; exact eqW c (by kernel_rfl) (by kernel_rfl)
    have R : PInv (i + 1) (aOf DA) ((aOf DB).pushW (.dS (infoB (mOf DM).p1))) { (mOf DM) with p1 := addW (mOf DM).p1 } := by rw [e]; exact (p1 c').swap
    exact (tail_np (a := (aOf DA)) (b := ((aOf DB).pushW (.dS (infoB (mOf DM).p1)))) (m := { (mOf DM) with p1 := addW (mOf DM).p1 }) (by kernel_rfl) R.right ⟨by have := R.bd; omega, by have := R.bd; omega⟩ (eqW hk.symm (by kernel_rfl) (by kernel_rfl)) (by kernel_rfl) (by kernel_rfl) (by kernel_rfl) (by kernel_rfl) (by kernel_rfl) (by kernel_rfl) (by kernel_rfl) (by kernel_rfl) (by kernel_rfl) (qPr R hk) ((eI _ _ _ _).2 ⟨addQ (by omega) (by kernel_rfl), by
      simp only [eI, eB, eS, eL, eN, and_true]
      repeat' apply And.intro
      all_goals kernel_rfl⟩))
  · have c' : ((aOf DB).push (.dS (infoB (mOf DM).p1))).1 ≠ 0 := fun x => by
      rw [eql_f] at c
      exact c (eqW x (by kernel_rfl) (by kernel_rfl))
    have R : PInv (i + 1) (aOf DA) ((aOf DB).pushW (.dS (infoB (mOf DM).p1))) (mOf DM) := (p2 c').swap
    exact (tail_np (a := (aOf DA)) (b := ((aOf DB).pushW (.dS (infoB (mOf DM).p1)))) (m := (mOf DM)) (by kernel_rfl) R.right ⟨by have := R.bd; omega, by have := R.bd; omega⟩ (eqW hk.symm (by kernel_rfl) (by kernel_rfl)) (by kernel_rfl) (by kernel_rfl) (by kernel_rfl) (by kernel_rfl) (by kernel_rfl) (by kernel_rfl) (by kernel_rfl) (by kernel_rfl) (by kernel_rfl) (qPr R hk) ((eI _ _ _ _).2 ⟨addQ (by omega) (by kernel_rfl), by
      simp only [eI, eB, eS, eL, eN, and_true]
      repeat' apply And.intro
      all_goals kernel_rfl⟩))
theorem pushT1_np (h : PInv i (aOf DA) (aOf DB) (mOf DM)) (hN : i ≤ 400) (hk : (aOf DA).k = k) : NxP (rhoQ L k n2 t1 i DA DB DM) (IPr L k n2 t1 (i + 1)) (subQ true 1) := by
  have e := addW_eq (x := (mOf DM).p1) (by have := h.bd; omega) (by have := h.bd; omega)
  obtain ⟨p1, p2⟩ := (h.swap).push
  rw [ASt.push_w] at p1 p2
  refine npT (eqW (dPush h.swap) (by kernel_rfl) (by kernel_rfl)) (npC (fun c => ?_) (fun c => ?_))
  · have c' : ((aOf DB).push (.dS (infoB (mOf DM).p1))).1 = 0 := by rw [eql_t] at c; exact eqW c (by kernel_rfl) (by kernel_rfl)
    have R : PInv (i + 1) (aOf DA) ((aOf DB).pushW (.dS (infoB (mOf DM).p1))) { (mOf DM) with p1 := addW (mOf DM).p1 } := by rw [e]; exact (p1 c').swap
    exact (tail_np (a := (aOf DA)) (b := ((aOf DB).pushW (.dS (infoB (mOf DM).p1)))) (m := { (mOf DM) with p1 := addW (mOf DM).p1 }) (by kernel_rfl) R.right ⟨by have := R.bd; omega, by have := R.bd; omega⟩ (eqW hk.symm (by kernel_rfl) (by kernel_rfl)) (by kernel_rfl) (by kernel_rfl) (by kernel_rfl) (by kernel_rfl) (by kernel_rfl) (by kernel_rfl) (by kernel_rfl) (by kernel_rfl) (by kernel_rfl) (qPr R hk) ((eI _ _ _ _).2 ⟨addQ (by omega) (by kernel_rfl), by
      simp only [eI, eB, eS, eL, eN, and_true]
      repeat' apply And.intro
      all_goals kernel_rfl⟩))
  · have c' : ((aOf DB).push (.dS (infoB (mOf DM).p1))).1 ≠ 0 := fun x => by
      rw [eql_f] at c
      exact c (eqW x (by kernel_rfl) (by kernel_rfl))
    have R : PInv (i + 1) (aOf DA) ((aOf DB).pushW (.dS (infoB (mOf DM).p1))) (mOf DM) := (p2 c').swap
    exact (tail_np (a := (aOf DA)) (b := ((aOf DB).pushW (.dS (infoB (mOf DM).p1)))) (m := (mOf DM)) (by kernel_rfl) R.right ⟨by have := R.bd; omega, by have := R.bd; omega⟩ (eqW hk.symm (by kernel_rfl) (by kernel_rfl)) (by kernel_rfl) (by kernel_rfl) (by kernel_rfl) (by kernel_rfl) (by kernel_rfl) (by kernel_rfl) (by kernel_rfl) (by kernel_rfl) (by kernel_rfl) (qPr R hk) ((eI _ _ _ _).2 ⟨addQ (by omega) (by kernel_rfl), by
      simp only [eI, eB, eS, eL, eN, and_true]
      repeat' apply And.intro
      all_goals kernel_rfl⟩))
theorem sendT2_np (h : PInv i (aOf DA) (aOf DB) (mOf DM)) (hN : i ≤ 400) (hk : (aOf DA).k = k) : NxP (rhoQ L k n2 t1 i DA DB DM) (IPr L k n2 t1 (i + 1)) (subQ true 2) := by
  obtain ⟨p1, p2⟩ := (h.swap).send
  rw [ASt.next_w] at p1 p2
  refine npT (eqW (dNext h.swap) (by kernel_rfl) (by kernel_rfl)) (npC (fun c => npT ?_ ?_) (fun c => ?_))
  · rw [lss_t]
    have hl := dLine (h.swap)
    have e : (@Tm.den (rhoQ L k n2 t1 i DA DB DM) (vt 62)).asI = (mOf DM).n1 := by kernel_rfl
    have hl2 : 0 ≤ (mOf DM).n1 ∧ (mOf DM).n1 ≤ i := hl
    rw [e, d_ci]; omega
  · have c' : (aOf DB).next.2.1 = true := eqW c (by kernel_rfl) (by kernel_rfl)
    have R : PInv (i + 1) (aOf DA) (aOf DB).nextW { (mOf DM) with o1 := 0, n1 := ((rowsOf (mOf DM).o1 (mOf DM).n1 (mOf DM).L1 ++ [frD (aOf DB).next.1]).length : Int), L1 := rowsOf (mOf DM).o1 (mOf DM).n1 (mOf DM).L1 ++ [frD (aOf DB).next.1] } := (p1 c').swap
    exact (tail_np (a := (aOf DA)) (b := (aOf DB).nextW) (m := { (mOf DM) with o1 := 0, n1 := ((rowsOf (mOf DM).o1 (mOf DM).n1 (mOf DM).L1 ++ [frD (aOf DB).next.1]).length : Int), L1 := rowsOf (mOf DM).o1 (mOf DM).n1 (mOf DM).L1 ++ [frD (aOf DB).next.1] }) (by kernel_rfl) R.right ⟨by have := R.bd; omega, by have := R.bd; omega⟩ (eqW hk.symm (by kernel_rfl) (by kernel_rfl)) (by kernel_rfl) (by kernel_rfl) (by kernel_rfl) (by kernel_rfl) (by kernel_rfl) (by kernel_rfl) (by kernel_rfl) (by kernel_rfl) (by kernel_rfl) (qPr R hk) ((eI _ _ _ _).2 ⟨addQ (by omega) (by kernel_rfl), by
      simp only [eI, eB, eS, eL, eN, and_true]
      repeat' apply And.intro
      all_goals kernel_rfl⟩))
  · have c' : (aOf DB).next.2.1 = false := eqW c (by kernel_rfl) (by kernel_rfl)
    have R : PInv (i + 1) (aOf DA) (aOf DB).nextW (mOf DM) := (p2 c').swap
    exact (tail_np (a := (aOf DA)) (b := (aOf DB).nextW) (m := (mOf DM)) (by kernel_rfl) R.right ⟨by have := R.bd; omega, by have := R.bd; omega⟩ (eqW hk.symm (by kernel_rfl) (by kernel_rfl)) (by kernel_rfl) (by kernel_rfl) (by kernel_rfl) (by kernel_rfl) (by kernel_rfl) (by kernel_rfl) (by kernel_rfl) (by kernel_rfl) (by kernel_rfl) (qPr R hk) ((eI _ _ _ _).2 ⟨addQ (by omega) (by kernel_rfl), by
      simp only [eI, eB, eS, eL, eN, and_true]
      repeat' apply And.intro
      all_goals kernel_rfl⟩))
theorem sendT3_np (h : PInv i (aOf DA) (aOf DB) (mOf DM)) (hN : i ≤ 400) (hk : (aOf DA).k = k) : NxP (rhoQ L k n2 t1 i DA DB DM) (IPr L k n2 t1 (i + 1)) (subQ true 3) := by
  obtain ⟨p1, p2⟩ := (h.swap).send
  rw [ASt.next_w] at p1 p2
  refine npT (eqW (dNext h.swap) (by kernel_rfl) (by kernel_rfl)) (npC (fun c => npT ?_ ?_) (fun c => ?_))
  · rw [lss_t]
    have hl := dLine (h.swap)
    have e : (@Tm.den (rhoQ L k n2 t1 i DA DB DM) (vt 62)).asI = (mOf DM).n1 := by kernel_rfl
    have hl2 : 0 ≤ (mOf DM).n1 ∧ (mOf DM).n1 ≤ i := hl
    rw [e, d_ci]; omega
  · have c' : (aOf DB).next.2.1 = true := eqW c (by kernel_rfl) (by kernel_rfl)
    have R : PInv (i + 1) (aOf DA) (aOf DB).nextW { (mOf DM) with o1 := 0, n1 := ((rowsOf (mOf DM).o1 (mOf DM).n1 (mOf DM).L1 ++ [frD (aOf DB).next.1]).length : Int), L1 := rowsOf (mOf DM).o1 (mOf DM).n1 (mOf DM).L1 ++ [frD (aOf DB).next.1] } := (p1 c').swap
    exact (tail_np (a := (aOf DA)) (b := (aOf DB).nextW) (m := { (mOf DM) with o1 := 0, n1 := ((rowsOf (mOf DM).o1 (mOf DM).n1 (mOf DM).L1 ++ [frD (aOf DB).next.1]).length : Int), L1 := rowsOf (mOf DM).o1 (mOf DM).n1 (mOf DM).L1 ++ [frD (aOf DB).next.1] }) (by kernel_rfl) R.right ⟨by have := R.bd; omega, by have := R.bd; omega⟩ (eqW hk.symm (by kernel_rfl) (by kernel_rfl)) (by kernel_rfl) (by kernel_rfl) (by kernel_rfl) (by kernel_rfl) (by kernel_rfl) (by kernel_rfl) (by kernel_rfl) (by kernel_rfl) (by kernel_rfl) (qPr R hk) ((eI _ _ _ _).2 ⟨addQ (by omega) (by kernel_rfl), by
      simp only [eI, eB, eS, eL, eN, and_true]
      repeat' apply And.intro
      all_goals kernel_rfl⟩))
  · have c' : (aOf DB).next.2.1 = false := eqW c (by kernel_rfl) (by kernel_rfl)
    have R : PInv (i + 1) (aOf DA) (aOf DB).nextW (mOf DM) := (p2 c').swap
    exact (tail_np (a := (aOf DA)) (b := (aOf DB).nextW) (m := (mOf DM)) (by kernel_rfl) R.right ⟨by have := R.bd; omega, by have := R.bd; omega⟩ (eqW hk.symm (by kernel_rfl) (by kernel_rfl)) (by kernel_rfl) (by kernel_rfl) (by kernel_rfl) (by kernel_rfl) (by kernel_rfl) (by kernel_rfl) (by kernel_rfl) (by kernel_rfl) (by kernel_rfl) (qPr R hk) ((eI _ _ _ _).2 ⟨addQ (by omega) (by kernel_rfl), by
      simp only [eI, eB, eS, eL, eN, and_true]
      repeat' apply And.intro
      all_goals kernel_rfl⟩))
theorem handT4_np (h : PInv i (aOf DA) (aOf DB) (mOf DM)) (hN : i ≤ 400) (hk : (aOf DA).k = k) : NxP (rhoQ L k n2 t1 i DA DB DM) (IPr L k n2 t1 (i + 1)) (subQ true 4) := by
  have e := addW_eq (x := (mOf DM).t1) (by have := h.bd; omega) (by have := h.bd; omega)
  have en : (@Tm.den (rhoQ L k n2 t1 i DA DB DM) (vt 62)).asI = (mOf DM).n1 := by kernel_rfl
  refine npC (fun c => ?_) (fun c => ?_)
  · have R : PInv (i + 1) (aOf DA) (aOf DB) (mOf DM) := h.mono (by omega)
    exact (tail_np (a := (aOf DA)) (b := (aOf DB)) (m := (mOf DM)) (by kernel_rfl) R.right ⟨by have := R.bd; omega, by have := R.bd; omega⟩ (eqW hk.symm (by kernel_rfl) (by kernel_rfl)) (by kernel_rfl) (by kernel_rfl) (by kernel_rfl) (by kernel_rfl) (by kernel_rfl) (by kernel_rfl) (by kernel_rfl) (by kernel_rfl) (by kernel_rfl) (qPr R hk) ((eI _ _ _ _).2 ⟨addQ (by omega) (by kernel_rfl), by
      simp only [eI, eB, eS, eL, eN, and_true]
      repeat' apply And.intro
      all_goals kernel_rfl⟩))
  · have c0 : 0 < (mOf DM).n1 := by
      have hl : 0 ≤ (mOf DM).n1 ∧ (mOf DM).n1 ≤ i := dLine (h.swap)
      rw [eql_f, en, d_ci] at c
      omega
    obtain ⟨p1, p2, p3⟩ := (h.swap).hand2 c0
    rw [ASt.hear_w] at p2 p3
    refine npT ?_ (npT ?_ (npT (eqW (dHear (h.swap)) (by kernel_rfl) (by kernel_rfl)) (npF (eqW p1 (by kernel_rfl) (by kernel_rfl)) (npC (fun c => ?_) (fun c => ?_)))))
    · rw [lss_t, en, d_ci]; omega
    · rw [leq_t, en, d_ci]; omega
    · have c' : ((aOf DA).hear (frOf ((mOf DM).L1.getD (mOf DM).o1.toNat []) 0)).1.taken = true := eqW c (by kernel_rfl) (by kernel_rfl)
      have R : PInv (i + 1) ((aOf DA).hearTo ((aOf DA).hear (frOf ((mOf DM).L1.getD (mOf DM).o1.toNat []) 0)).2) (aOf DB) { (mOf DM) with o1 := (mOf DM).o1 + 1, n1 := (mOf DM).n1 - 1, t1 := addW (mOf DM).t1 } := by
        rw [e]
        exact ((p2 c').2).swap
      refine npF ?_ ?_
      · have p5 := (p2 c').1
        have hs : ∀ x y : Tm, (@Tm.den (rhoQ L k n2 t1 i DA DB DM) x).asS = (@Tm.den (rhoQ L k n2 t1 i DA DB DM) y).asS → (@Tm.den (rhoQ L k n2 t1 i DA DB DM) (.sb .neq x y)).asB = false := fun x y hxy => by
          show (!((@Tm.den (rhoQ L k n2 t1 i DA DB DM) x).asS == (@Tm.den (rhoQ L k n2 t1 i DA DB DM) y).asS)) = false
          rw [hxy]; simp
        exact hs _ _ (eqW p5 (by kernel_rfl) (by kernel_rfl))
      · exact (tail_np (a := ((aOf DA).hearTo ((aOf DA).hear (frOf ((mOf DM).L1.getD (mOf DM).o1.toNat []) 0)).2)) (b := (aOf DB)) (m := { (mOf DM) with o1 := (mOf DM).o1 + 1, n1 := (mOf DM).n1 - 1, t1 := addW (mOf DM).t1 }) (by kernel_rfl) R.right ⟨by have := R.bd; omega, by have := R.bd; omega⟩ (eqW ((ASt.hearTo_k (aOf DA) ((aOf DA).hear (frOf ((mOf DM).L1.getD (mOf DM).o1.toNat []) 0)).2).trans hk).symm (by kernel_rfl) (by kernel_rfl)) (by kernel_rfl) (by kernel_rfl) (by kernel_rfl) (by kernel_rfl) (by kernel_rfl) (by kernel_rfl) (by kernel_rfl) (by kernel_rfl) (by kernel_rfl) (qPr R ((ASt.hearTo_k (aOf DA) ((aOf DA).hear (frOf ((mOf DM).L1.getD (mOf DM).o1.toNat []) 0)).2).trans hk)) ((eI _ _ _ _).2 ⟨addQ (by omega) (by kernel_rfl), by
      simp only [eI, eB, eS, eL, eN, and_true]
      repeat' apply And.intro
      all_goals kernel_rfl⟩))
    · have c' : ((aOf DA).hear (frOf ((mOf DM).L1.getD (mOf DM).o1.toNat []) 0)).1.taken = false := eqW c (by kernel_rfl) (by kernel_rfl)
      have R : PInv (i + 1) ((aOf DA).hearTo ((aOf DA).hear (frOf ((mOf DM).L1.getD (mOf DM).o1.toNat []) 0)).2) (aOf DB) { (mOf DM) with o1 := (mOf DM).o1 + 1, n1 := (mOf DM).n1 - 1 } := by
        exact (p3 c').swap
      exact (tail_np (a := ((aOf DA).hearTo ((aOf DA).hear (frOf ((mOf DM).L1.getD (mOf DM).o1.toNat []) 0)).2)) (b := (aOf DB)) (m := { (mOf DM) with o1 := (mOf DM).o1 + 1, n1 := (mOf DM).n1 - 1 }) (by kernel_rfl) R.right ⟨by have := R.bd; omega, by have := R.bd; omega⟩ (eqW ((ASt.hearTo_k (aOf DA) ((aOf DA).hear (frOf ((mOf DM).L1.getD (mOf DM).o1.toNat []) 0)).2).trans hk).symm (by kernel_rfl) (by kernel_rfl)) (by kernel_rfl) (by kernel_rfl) (by kernel_rfl) (by kernel_rfl) (by kernel_rfl) (by kernel_rfl) (by kernel_rfl) (by kernel_rfl) (by kernel_rfl) (qPr R ((ASt.hearTo_k (aOf DA) ((aOf DA).hear (frOf ((mOf DM).L1.getD (mOf DM).o1.toNat []) 0)).2).trans hk)) ((eI _ _ _ _).2 ⟨addQ (by omega) (by kernel_rfl), by
      simp only [eI, eB, eS, eL, eN, and_true]
      repeat' apply And.intro
      all_goals kernel_rfl⟩))
theorem handT5_np (h : PInv i (aOf DA) (aOf DB) (mOf DM)) (hN : i ≤ 400) (hk : (aOf DA).k = k) : NxP (rhoQ L k n2 t1 i DA DB DM) (IPr L k n2 t1 (i + 1)) (subQ true 5) := by
  have e := addW_eq (x := (mOf DM).t1) (by have := h.bd; omega) (by have := h.bd; omega)
  have en : (@Tm.den (rhoQ L k n2 t1 i DA DB DM) (vt 62)).asI = (mOf DM).n1 := by kernel_rfl
  refine npC (fun c => ?_) (fun c => ?_)
  · have R : PInv (i + 1) (aOf DA) (aOf DB) (mOf DM) := h.mono (by omega)
    exact (tail_np (a := (aOf DA)) (b := (aOf DB)) (m := (mOf DM)) (by kernel_rfl) R.right ⟨by have := R.bd; omega, by have := R.bd; omega⟩ (eqW hk.symm (by kernel_rfl) (by kernel_rfl)) (by kernel_rfl) (by kernel_rfl) (by kernel_rfl) (by kernel_rfl) (by kernel_rfl) (by kernel_rfl) (by kernel_rfl) (by kernel_rfl) (by kernel_rfl) (qPr R hk) ((eI _ _ _ _).2 ⟨addQ (by omega) (by kernel_rfl), by
      simp only [eI, eB, eS, eL, eN, and_true]
      repeat' apply And.intro
      all_goals kernel_rfl⟩))
  · have c0 : 0 < (mOf DM).n1 := by
      have hl : 0 ≤ (mOf DM).n1 ∧ (mOf DM).n1 ≤ i := dLine (h.swap)
      rw [eql_f, en, d_ci] at c
      omega
    obtain ⟨p1, p2, p3⟩ := (h.swap).hand2 c0
    rw [ASt.hear_w] at p2 p3
    refine npT ?_ (npT ?_ (npT (eqW (dHear (h.swap)) (by kernel_rfl) (by kernel_rfl)) (npF (eqW p1 (by kernel_rfl) (by kernel_rfl)) (npC (fun c => ?_) (fun c => ?_)))))
    · rw [lss_t, en, d_ci]; omega
    · rw [leq_t, en, d_ci]; omega
    · have c' : ((aOf DA).hear (frOf ((mOf DM).L1.getD (mOf DM).o1.toNat []) 0)).1.taken = true := eqW c (by kernel_rfl) (by kernel_rfl)
      have R : PInv (i + 1) ((aOf DA).hearTo ((aOf DA).hear (frOf ((mOf DM).L1.getD (mOf DM).o1.toNat []) 0)).2) (aOf DB) { (mOf DM) with o1 := (mOf DM).o1 + 1, n1 := (mOf DM).n1 - 1, t1 := addW (mOf DM).t1 } := by
        rw [e]
        exact ((p2 c').2).swap
      refine npF ?_ ?_
      · have p5 := (p2 c').1
        have hs : ∀ x y : Tm, (@Tm.den (rhoQ L k n2 t1 i DA DB DM) x).asS = (@Tm.den (rhoQ L k n2 t1 i DA DB DM) y).asS → (@Tm.den (rhoQ L k n2 t1 i DA DB DM) (.sb .neq x y)).asB = false := fun x y hxy => by
          show (!((@Tm.den (rhoQ L k n2 t1 i DA DB DM) x).asS == (@Tm.den (rhoQ L k n2 t1 i DA DB DM) y).asS)) = false
          rw [hxy]; simp
        exact hs _ _ (eqW p5 (by kernel_rfl) (by kernel_rfl))
      · exact (tail_np (a := ((aOf DA).hearTo ((aOf DA).hear (frOf ((mOf DM).L1.getD (mOf DM).o1.toNat []) 0)).2)) (b := (aOf DB)) (m := { (mOf DM) with o1 := (mOf DM).o1 + 1, n1 := (mOf DM).n1 - 1, t1 := addW (mOf DM).t1 }) (by kernel_rfl) R.right ⟨by have := R.bd; omega, by have := R.bd; omega⟩ (eqW ((ASt.hearTo_k (aOf DA) ((aOf DA).hear (frOf ((mOf DM).L1.getD (mOf DM).o1.toNat []) 0)).2).trans hk).symm (by kernel_rfl) (by kernel_rfl)) (by kernel_rfl) (by kernel_rfl) (by kernel_rfl) (by kernel_rfl) (by kernel_rfl) (by kernel_rfl) (by kernel_rfl) (by kernel_rfl) (by kernel_rfl) (qPr R ((ASt.hearTo_k (aOf DA) ((aOf DA).hear (frOf ((mOf DM).L1.getD (mOf DM).o1.toNat []) 0)).2).trans hk)) ((eI _ _ _ _).2 ⟨addQ (by omega) (by kernel_rfl), by
      simp only [eI, eB, eS, eL, eN, and_true]
      repeat' apply And.intro
      all_goals kernel_rfl⟩))
    · have c' : ((aOf DA).hear (frOf ((mOf DM).L1.getD (mOf DM).o1.toNat []) 0)).1.taken = false := eqW c (by kernel_rfl) (by kernel_rfl)
      have R : PInv (i + 1) ((aOf DA).hearTo ((aOf DA).hear (frOf ((mOf DM).L1.getD (mOf DM).o1.toNat []) 0)).2) (aOf DB) { (mOf DM) with o1 := (mOf DM).o1 + 1, n1 := (mOf DM).n1 - 1 } := by
        exact (p3 c').swap
      exact (tail_np (a := ((aOf DA).hearTo ((aOf DA).hear (frOf ((mOf DM).L1.getD (mOf DM).o1.toNat []) 0)).2)) (b := (aOf DB)) (m := { (mOf DM) with o1 := (mOf DM).o1 + 1, n1 := (mOf DM).n1 - 1 }) (by kernel_rfl) R.right ⟨by have := R.bd; omega, by have := R.bd; omega⟩ (eqW ((ASt.hearTo_k (aOf DA) ((aOf DA).hear (frOf ((mOf DM).L1.getD (mOf DM).o1.toNat []) 0)).2).trans hk).symm (by kernel_rfl) (by kernel_rfl)) (by kernel_rfl) (by kernel_rfl) (by kernel_rfl) (by kernel_rfl) (by kernel_rfl) (by kernel_rfl) (by kernel_rfl) (by kernel_rfl) (by kernel_rfl) (qPr R ((ASt.hearTo_k (aOf DA) ((aOf DA).hear (frOf ((mOf DM).L1.getD (mOf DM).o1.toNat []) 0)).2).trans hk)) ((eI _ _ _ _).2 ⟨addQ (by omega) (by kernel_rfl), by
      simp only [eI, eB, eS, eL, eN, and_true]
      repeat' apply And.intro
      all_goals kernel_rfl⟩))
theorem loseT_np (h : PInv i (aOf DA) (aOf DB) (mOf DM)) (hN : i ≤ 400) (hk : (aOf DA).k = k) : NxP (rhoQ L k n2 t1 i DA DB DM) (IPr L k n2 t1 (i + 1)) (subQ true 6) := by
  have en : (@Tm.den (rhoQ L k n2 t1 i DA DB DM) (vt 62)).asI = (mOf DM).n1 := by kernel_rfl
  refine npC (fun c => ?_) (fun c => ?_)
  · have R : PInv (i + 1) (aOf DA) (aOf DB) (mOf DM) := h.mono (by omega)
    exact (tail_np (a := (aOf DA)) (b := (aOf DB)) (m := (mOf DM)) (by kernel_rfl) R.right ⟨by have := R.bd; omega, by have := R.bd; omega⟩ (eqW hk.symm (by kernel_rfl) (by kernel_rfl)) (by kernel_rfl) (by kernel_rfl) (by kernel_rfl) (by kernel_rfl) (by kernel_rfl) (by kernel_rfl) (by kernel_rfl) (by kernel_rfl) (by kernel_rfl) (qPr R hk) ((eI _ _ _ _).2 ⟨addQ (by omega) (by kernel_rfl), by
      simp only [eI, eB, eS, eL, eN, and_true]
      repeat' apply And.intro
      all_goals kernel_rfl⟩))
  · have c0 : 0 < (mOf DM).n1 := by
      have hl : 0 ≤ (mOf DM).n1 ∧ (mOf DM).n1 ≤ i := dLine (h.swap)
      rw [eql_f, en, d_ci] at c
      omega
    have R : PInv (i + 1) (aOf DA) (aOf DB) { (mOf DM) with o1 := (mOf DM).o1 + 1, n1 := (mOf DM).n1 - 1 } := ((h.swap).lose c0).swap
    refine npT ?_ (npT ?_ ?_)
    · rw [lss_t, en, d_ci]; omega
    · rw [leq_t, en, d_ci]; omega
    · exact (tail_np (a := (aOf DA)) (b := (aOf DB)) (m := { (mOf DM) with o1 := (mOf DM).o1 + 1, n1 := (mOf DM).n1 - 1 }) (by kernel_rfl) R.right ⟨by have := R.bd; omega, by have := R.bd; omega⟩ (eqW hk.symm (by kernel_rfl) (by kernel_rfl)) (by kernel_rfl) (by kernel_rfl) (by kernel_rfl) (by kernel_rfl) (by kernel_rfl) (by kernel_rfl) (by kernel_rfl) (by kernel_rfl) (by kernel_rfl) (qPr R hk) ((eI _ _ _ _).2 ⟨addQ (by omega) (by kernel_rfl), by
      simp only [eI, eB, eS, eL, eN, and_true]
      repeat' apply And.intro
      all_goals kernel_rfl⟩))
theorem tickT_np (h : PInv i (aOf DA) (aOf DB) (mOf DM)) (hN : i ≤ 400) (hk : (aOf DA).k = k) : NxP (rhoQ L k n2 t1 i DA DB DM) (IPr L k n2 t1 (i + 1)) (subQ true 7) := by
  have R : PInv (i + 1) (aOf DA).tickW (aOf DB).tickW (mOf DM) := by
    rw [← ASt.tick_w, ← ASt.tick_w]; exact h.tick
  exact npT (eqW (dTick h) (by kernel_rfl) (by kernel_rfl)) (npT (eqW (dTick h.swap) (by kernel_rfl) (by kernel_rfl)) (tail_np (a := (aOf DA).tickW) (b := (aOf DB).tickW) (m := (mOf DM)) (by kernel_rfl) R.right ⟨by have := R.bd; omega, by have := R.bd; omega⟩ (eqW ((ASt.tickW_k _).trans hk).symm (by kernel_rfl) (by kernel_rfl)) (by kernel_rfl) (by kernel_rfl) (by kernel_rfl) (by kernel_rfl) (by kernel_rfl) (by kernel_rfl) (by kernel_rfl) (by kernel_rfl) (by kernel_rfl) (qPr R ((ASt.tickW_k _).trans hk)) ((eI _ _ _ _).2 ⟨addQ (by omega) (by kernel_rfl), by
      simp only [eI, eB, eS, eL, eN, and_true]
      repeat' apply And.intro
      all_goals kernel_rfl⟩)))
theorem busyT_np (h : PInv i (aOf DA) (aOf DB) (mOf DM)) (hN : i ≤ 400) (hk : (aOf DA).k = k) : NxP (rhoQ L k n2 t1 i DA DB DM) (IPr L k n2 t1 (i + 1)) (subQ true 8) := by
  have R : PInv (i + 1) (aOf DA) ((aOf DB).busyW (gB (L.getD i []) 2)) (mOf DM) := by
    rw [← ASt.busy_w]; exact ((h.swap).busy _).swap
  exact npT (by kernel_rfl) (tail_np (a := (aOf DA)) (b := ((aOf DB).busyW (gB (L.getD i []) 2))) (m := (mOf DM)) (by kernel_rfl) R.right ⟨by have := R.bd; omega, by have := R.bd; omega⟩ (eqW hk.symm (by kernel_rfl) (by kernel_rfl)) (by kernel_rfl) (by kernel_rfl) (by kernel_rfl) (by kernel_rfl) (by kernel_rfl) (by kernel_rfl) (by kernel_rfl) (by kernel_rfl) (by kernel_rfl) (qPr R hk) ((eI _ _ _ _).2 ⟨addQ (by omega) (by kernel_rfl), by
      simp only [eI, eB, eS, eL, eN, and_true]
      repeat' apply And.intro
      all_goals kernel_rfl⟩))
theorem opQ_den (h : 0 ≤ gI (L.getD i []) 0) : (@Tm.den (rhoQ L k n2 t1 i DA DB DM) opQ).asI = gI (L.getD i []) 0 % 9 := by
  show (gI (L.getD i []) 0).tmod 9 = _
  exact Int.tmod_eq_emod_of_nonneg h
theorem body_np (b : Bool) (hop : 0 ≤ gI (L.getD i []) 0) (h : ∀ n : Nat, n ≤ 8 → NxP (rhoQ L k n2 t1 i DA DB DM) (IPr L k n2 t1 (i + 1)) (subQ b n)) : NxP (rhoQ L k n2 t1 i DA DB DM) (IPr L k n2 t1 (i + 1)) (bodyQ b) := by
  rw [bodyQ_is]
  exact npC (fun _ => h 0 (by omega)) fun _ => npC (fun _ => h 1 (by omega)) fun _ => npC (fun _ => h 2 (by omega)) fun _ => npC (fun _ => h 3 (by omega)) fun _ => npC (fun _ => h 4 (by omega)) fun _ => npC (fun _ => h 5 (by omega)) fun _ => npC (fun _ => h 6 (by omega)) fun _ => npC (fun _ => h 7 (by omega)) fun _ => h 8 (by omega)
theorem subs_np (b : Bool) (h : PInv i (aOf DA) (aOf DB) (mOf DM)) (hN : i ≤ 400) (hk : (aOf DA).k = k) (n : Nat) (hn : n ≤ 8) : NxP (rhoQ L k n2 t1 i DA DB DM) (IPr L k n2 t1 (i + 1)) (subQ b n) := by
  match n, hn with
  | 0, _ =>
    cases b
    · exact pushF0_np h hN hk
    · exact pushT0_np h hN hk
  | 1, _ =>
    cases b
    · exact pushF1_np h hN hk
    · exact pushT1_np h hN hk
  | 2, _ =>
    cases b
    · exact sendF2_np h hN hk
    · exact sendT2_np h hN hk
  | 3, _ =>
    cases b
    · exact sendF3_np h hN hk
    · exact sendT3_np h hN hk
  | 4, _ =>
    cases b
    · exact handF4_np h hN hk
    · exact handT4_np h hN hk
  | 5, _ =>
    cases b
    · exact handF5_np h hN hk
    · exact handT5_np h hN hk
  | 6, _ =>
    cases b
    · exact loseF_np h hN hk
    · exact loseT_np h hN hk
  | 7, _ =>
    cases b
    · exact tickF_np h hN hk
    · exact tickT_np h hN hk
  | 8, _ =>
    cases b
    · exact busyF_np h hN hk
    · exact busyT_np h hN hk
theorem round_np (h : PInv i (aOf DA) (aOf DB) (mOf DM)) (hk : (aOf DA).k = k) (hop : 0 ≤ gI (L.getD i []) 0) (hi : i < L.length) (hN : i ≤ 400) : NxP (rhoQ L k n2 t1 i DA DB DM) (IPr L k n2 t1 (i + 1)) rtPr := by
  have e1 : (@Tm.den (rhoQ L k n2 t1 i DA DB DM) (.ib .lss .i64 (vt 4) (.llen (vt 0)))).asB = true := decide_eq_true (by show (i : Int) < (L.length : Int); omega)
  have e2 : (@Tm.den (rhoQ L k n2 t1 i DA DB DM) rtPr_0).asB = true := by
    rw [and_t]
    exact ⟨(by show decide ((0 : Int) ≤ (i : Int)) = true; exact decide_eq_true (by omega)), e1⟩
  rw [rtPr_is]
  exact npT e1 (npT e2 (npC (fun _ => body_np true hop (subs_np true h hN hk)) fun _ => body_np false hop (subs_np false h hN hk)))
end
end
end Go.Proofs.Ytlbkficdelepeaa.Ab
