/-
  MsgsPuts, called: it returns true and makes at most new blocks.
  Conditions: arguments as the model reads them.
-/
import Derived.Test.YtamibbjpapkfeaaMsgT
namespace Go.Proofs.Ytamibbjpapkfeaa.Ab
set_option linter.unusedSimpArgs false
set_option linter.unusedVariables false
open Go
section
variable {ρ : Rho}
theorem ok_fork (c : Tm) (x y : Tree AV) : (Tree.fork c x y).ok ↔ (c.den.asB = true → x.ok) ∧ (c.den.asB = false → y.ok) := Iff.rfl
theorem ok_true : (Tree.leaf (.bool true)).ok := ⟨.cb true, rfl, rfl⟩
theorem ok_false : ¬ (Tree.leaf (.bool false)).ok := fun ⟨t, h1, h2⟩ => by cases h1; cases h2
theorem ok_fail : ¬ Tree.fail.ok := fun h => h
theorem den_sb (op : BinOp) (x y : Tm) : (Tm.sb op x y).den = sop op x.den.asS y.den.asS := rfl
theorem den_not (x : Tm) : (Tm.not x).den = .dB (!x.den.asB) := rfl
theorem den_beq (x y : Tm) : (Tm.beq x y).den = .dB (x.den.asB == y.den.asB) := rfl
theorem den_len (x : Tm) : (Tm.len x).den = .dI (x.den.asS.length : Int) := rfl
theorem den_cs (n : List UInt8) : (Tm.cs n).den = .dS n := rfl
theorem den_oct (x : Tm) : (Tm.oct x).den = .dS [UInt8.ofNat x.den.asI.toNat] := rfl
end
abbrev rhoQ (k : Int) (c : Bool) (x : Prm) (s : Stat) (ty : Int) (b : List UInt8) : Rho := rhoG [.dI k, .dB c, .dI x.d, .dI x.f, .dI x.c, .dI x.p, .dI x.t1, .dI x.n1, .dI x.n2, .dI x.k, .dI s.d, .dB s.fc, .dB s.rtc, .dB s.rtr, .dB s.ic, .dB s.dv, .dB s.hb, .dI s.br, .dI ty, .dS b]
theorem pput_len (x : Prm) : ((pput x).1.length : Int) ≤ 1000 := by
  unfold pput; split <;> simp
theorem mput_len (s : Stat) : ((mput s).1.length : Int) ≤ 1000 := by
  unfold mput; split
  · simp
  · split <;> simp
theorem pput2 (x : Prm) : (pput x).2 = if pmay x = true then 0 else 2 := by
  unfold pput; split <;> rfl
theorem bits8 (ty : Int) (h0 : 0 ≤ ty) (h1 : ty ≤ 63) : (iop .or .u8 (iop .shl .u8 ty 2).asI 3).asI = (iop .add .u8 (iop .mul .u8 4 ty).asI 3).asI ∧ (iop .or .u8 (iop .shl .u8 ty 2).asI 1).asI = (iop .add .u8 (iop .mul .u8 4 ty).asI 1).asI := by
  have h : ∀ n : Fin 64, (iop .or .u8 (iop .shl .u8 (n.val : Int) 2).asI 3).asI = (iop .add .u8 (iop .mul .u8 4 (n.val : Int)).asI 3).asI ∧ (iop .or .u8 (iop .shl .u8 (n.val : Int) 2).asI 1).asI = (iop .add .u8 (iop .mul .u8 4 (n.val : Int)).asI 1).asI := by decide +kernel
  have := h ⟨ty.toNat, by omega⟩
  rw [show ((⟨ty.toNat, by omega⟩ : Fin 64).val : Int) = ty by simp; omega] at this
  exact this
section
variable (k : Int) (c : Bool) (x : Prm) (s : Stat) (ty : Int) (b : List UInt8)
theorem ok_1 (hx : x.ok) : @Tree.ok (rhoQ k c x s ty b) gt1 := by
  letI ρ : Rho := rhoQ k c x s ty b
  have P11 : (Tm.app 11 pnP).den = .dI (pput x).2 := rfl
  have P10 : (Tm.app 10 pnP).den = .dS (pput x).1 := rfl
  have P12 : (Tm.app 12 pnP).den = .dB (pmay x) := rfl
  have V1 : (Tm.var 1).den = .dB c := rfl
  have V2 : (Tm.var 2).den = .dI x.d := rfl
  have V3 : (Tm.var 3).den = .dI x.f := rfl
  have V4 : (Tm.var 4).den = .dI x.c := rfl
  have V5 : (Tm.var 5).den = .dI x.p := rfl
  have V19 : (Tm.var 19).den = .dS b := rfl
  obtain ⟨⟨a0, a1⟩, ⟨a2, a3⟩, ⟨a4, a5⟩, a6, a7⟩ := hx
  have hl := pput_len x
  have h2 := pput2 x
  show gt1.ok
  unfold gt1
  simp only [ok_fork, ok_true, ok_false, ok_fail, den_ib, den_not, den_and, den_len, den_ci, V1, V2, V3, V4, V5, V19, P10, P11, P12, iop, asI_I, asB_B, asS_S]
  generalize eqt1.den.asB = q
  cases hm : pmay x <;> cases q <;> simp [hm] at h2 <;> simp [*]
theorem ok_2 (h0 : 0 ≤ s.d) (h1 : s.d ≤ 255) (h2 : 0 ≤ s.br) (h3 : s.br ≤ 255) : @Tree.ok (rhoQ k c x s ty b) gt2 := by
  letI ρ : Rho := rhoQ k c x s ty b
  have P0 : (Tm.app 0 msP).den = .dS (mput s).1 := rfl
  have P1 : (Tm.app 1 msP).den = .dI (mput s).2 := rfl
  have V1 : (Tm.var 1).den = .dB c := rfl
  have V10 : (Tm.var 10).den = .dI s.d := rfl
  have V17 : (Tm.var 17).den = .dI s.br := rfl
  have V19 : (Tm.var 19).den = .dS b := rfl
  have hl := mput_len s
  show gt2.ok
  unfold gt2
  simp only [ok_fork, ok_true, ok_false, ok_fail, den_ib, den_not, den_and, den_len, den_ci, V1, V10, V17, V19, P0, P1, iop, asI_I, asB_B, asS_S]
  simp [*]
theorem eqt3_b (h : (@Tm.den (rhoQ k c x s ty b) eqt3).asB = true) : b = [] := by
  have V19 : @Tm.den (rhoQ k c x s ty b) (Tm.var 19) = .dS b := rfl
  unfold eqt3 at h
  simp only [den_ib, den_sb, den_not, den_and, den_ci, den_cs, V19, iop, sop, asI_I, asB_B, asS_S, Bool.and_eq_true, beq_iff_eq] at h
  simp_all
theorem ok_3 : @Tree.ok (rhoQ k c x s ty b) gt3 ∧ @Tree.ok (rhoQ k c x s ty b) gt4 ∧ @Tree.ok (rhoQ k c x s ty b) gt6 := by
  letI ρ : Rho := rhoQ k c x s ty b
  have V1 : (Tm.var 1).den = .dB c := rfl
  have V19 : (Tm.var 19).den = .dS b := rfl
  have A20 : ∀ k v, (Tm.app 20 (.pair k (.pair (.var 1) v))).den = .dS (tput k.den.asI c v.den.asS).1 := fun _ _ => rfl
  have A21 : ∀ k v, (Tm.app 21 (.pair k (.pair (.var 1) v))).den = .dI (tput k.den.asI c v.den.asS).2 := fun _ _ => rfl
  have he : eqt3.den.asB = true → b = [] := eqt3_b k c x s ty b
  have hg : ∀ q : Bool, (q = true → b = []) → gt3.ok ∧ gt4.ok ∧ gt6.ok ∨ q = q := fun _ _ => .inr rfl
  show gt3.ok ∧ gt4.ok ∧ gt6.ok
  unfold gt3 gt4 gt6
  simp only [ok_fork, ok_true, ok_false, ok_fail, den_ib, den_sb, den_not, den_and, den_len, den_ci, den_cs, V1, V19, A20, A21, iop, sop, asI_I, asB_B, asS_S]
  clear hg
  generalize eqt3.den.asB = q at he
  cases q with
  | false => simp
  | true =>
    have hb := he rfl
    subst hb
    simp
theorem ok_5 : @Tree.ok (rhoQ k c x s ty b) gt5 ∧ @Tree.ok (rhoQ k c x s ty b) gt7 := by
  letI ρ : Rho := rhoQ k c x s ty b
  have V1 : (Tm.var 1).den = .dB c := rfl
  have V19 : (Tm.var 19).den = .dS b := rfl
  have V18 : (Tm.var 18).den = .dI ty := rfl
  show gt5.ok ∧ gt7.ok
  unfold gt5 gt7
  simp only [ok_fork, ok_true, ok_false, ok_fail, den_ib, den_sb, den_not, den_and, den_len, den_ci, den_cs, den_oct, V1, V18, V19, iop, sop, asI_I, asB_B, asS_S]
  simp
  omega
theorem ok_8 (t0 : 0 ≤ ty) (t1 : ty ≤ 255) : @Tree.ok (rhoQ k c x s ty b) gt8 := by
  letI ρ : Rho := rhoQ k c x s ty b
  have V1 : (Tm.var 1).den = .dB c := rfl
  have V19 : (Tm.var 19).den = .dS b := rfl
  have V18 : (Tm.var 18).den = .dI ty := rfl
  have A30 : (Tm.app 30 (.var 18)).den = .dI (kindF ty) := rfl
  have B3 : ty ≤ 63 → (Tm.ib BinOp.or IntKind.u8 (Tm.ib BinOp.shl IntKind.u8 (Tm.var 18) (Tm.ci 2)) (Tm.ci 3)).den.asI = (Tm.ib BinOp.add IntKind.u8 (Tm.ib BinOp.mul IntKind.u8 (Tm.ci 4) (Tm.var 18)) (Tm.ci 3)).den.asI := fun h => (bits8 ty t0 h).1
  have B1 : ty ≤ 63 → (Tm.ib BinOp.or IntKind.u8 (Tm.ib BinOp.shl IntKind.u8 (Tm.var 18) (Tm.ci 2)) (Tm.ci 1)).den.asI = (Tm.ib BinOp.add IntKind.u8 (Tm.ib BinOp.mul IntKind.u8 (Tm.ci 4) (Tm.var 18)) (Tm.ci 1)).den.asI := fun h => (bits8 ty t0 h).2
  have E : ∀ k x y, (Tm.ib .eql k x y).den = .dB (x.den.asI == y.den.asI) := fun _ _ _ => rfl
  have N : ∀ k x y, (Tm.ib .neq k x y).den = .dB (x.den.asI != y.den.asI) := fun _ _ _ => rfl
  have Le : ∀ k x y, (Tm.ib .leq k x y).den = .dB (decide (x.den.asI ≤ y.den.asI)) := fun _ _ _ => rfl
  have Ls : ∀ k x y, (Tm.ib .lss k x y).den = .dB (decide (x.den.asI < y.den.asI)) := fun _ _ _ => rfl
  have Gt : ∀ k x y, (Tm.ib .gtr k x y).den = .dB (decide (x.den.asI > y.den.asI)) := fun _ _ _ => rfl
  have A20 : ∀ k v, (Tm.app 20 (.pair k (.pair (.var 1) v))).den = .dS (tput k.den.asI c v.den.asS).1 := fun _ _ => rfl
  have A21 : ∀ k v, (Tm.app 21 (.pair k (.pair (.var 1) v))).den = .dI (tput k.den.asI c v.den.asS).2 := fun _ _ => rfl
  show gt8.ok
  unfold gt8
  by_cases ht : ty ≤ 63
  · have B3 := B3 ht
    have B1 := B1 ht
    generalize hq : eqt8.den.asB = q
    simp only [ok_fork, ok_true, ok_false, ok_fail, E, N, Le, Ls, Gt, den_sb, den_not, den_and, den_beq, den_len, den_ci, den_cs, B3, B1, V1, V18, V19, A30, A20, A21, sop, asI_I, asB_B, asS_S, hq]
    cases q
    · simp [*]
      try omega
    · have : ty < 64 := by omega
      simp [*]
      try omega
  · generalize hq : eqt8.den.asB = q
    simp only [ok_fork, ok_true, ok_false, ok_fail, E, N, Le, Ls, Gt, den_sb, den_not, den_and, den_beq, den_len, den_ci, den_cs, V1, V18, V19, A30, A20, A21, sop, asI_I, asB_B, asS_S, hq]
    have : ¬ ty < 64 := by omega
    cases q
    · simp [*]
      try omega
    · simp [*]
      try omega
end
end Go.Proofs.Ytamibbjpapkfeaa.Ab
