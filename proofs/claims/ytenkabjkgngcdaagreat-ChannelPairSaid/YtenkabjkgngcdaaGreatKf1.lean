import Derived.Test.YtenkabjkgngcdaaGreatKf0
import Derived.Test.YtenkabjkgngcdaaGreatKd7
set_option linter.unusedVariables false
set_option linter.unusedSimpArgs false
set_option linter.unusedSectionVars false
namespace Go.Proofs.YtenkabjkgngcdaaGreat.Ab
open Go
set_option maxRecDepth 100000
noncomputable section
def zA5 (d : Dat) : CSt := cOf (d.asL.getD 0 [])
abbrev x1 (d : Dat) : Dat := .dP d (.dB false)
abbrev x2 (d a : Dat) : Dat := .dP d (.dP a (.dB false))
abbrev x8 (d : Dat) (f : List Dat) : Dat := .dP d (.dP (f.getD 0 (.dI 0)) (.dP (f.getD 1 (.dI 0)) (.dP (f.getD 2 (.dI 0)) (.dP (f.getD 3 (.dI 0)) (.dP (f.getD 4 (.dI 0)) (.dP (f.getD 5 (.dI 0)) (.dP (f.getD 6 (.dI 0)) (.dB false))))))))
section
variable (d a : Dat)
theorem zRW : (fnC 4098 (x1 d)).asB = true := by kernel_rfl
theorem zOx : (fnC 4162 (x1 d)).asB = true := by kernel_rfl
theorem zOw : (fnC 4227 (x2 d a)).asB = true := by kernel_rfl
theorem zRV : (fnC 4290 (x2 d a)).asB = true := by kernel_rfl
theorem zRY (f : List Dat) : (fnC 4353 (x8 d f)).asB = decide (okH (zA5 d) (zC7 f 0)) := by kernel_rfl
theorem zIw : (fnC 4417 (x1 d)).asB = decide (okT (zA5 d)) := by kernel_rfl
theorem zRX : (fnC 4489 (x2 d a)).asB = zJ3 (zA5 d) a.asB := by kernel_rfl
theorem zYS : zA5 (fnC 4096 (x1 d)) = { zA5 d with c := (zA5 d).c.mv (zA5 d).c.open_.2 } := by kernel_rfl
theorem zUw : zA5 (fnC 4160 (x1 d)) = { zA5 d with c := (zA5 d).c.mv (zA5 d).c.close.2 } := by kernel_rfl
def wrR (c : CSt) (s : List UInt8) : Int × Int × List UInt8 × ASt := zEz c.a c.c.st c.c.qt c.pn c.c.qr s
theorem zUu : zA5 (fnC 4224 (x2 d a)) = { zA5 d with c := { (zA5 d).c with qt := (wrR (zA5 d) a.asS).2.2.1 }, a := { (zA5 d).a with left := (wrR (zA5 d) a.asS).2.2.2.left, wants := (wrR (zA5 d) a.asS).2.2.2.wants } } := by kernel_rfl
theorem zSD : (fnC 4225 (x2 d a)).asI = (wrR (zA5 d) a.asS).1 := by kernel_rfl
theorem zRR : zA5 (fnC 4288 (x2 d a)) = ((zA5 d).read a.asI).2 := by kernel_rfl
theorem zOt : (fnC 4289 (x2 d a)).asS = ((zA5 d).read a.asI).1 := by kernel_rfl
def zNQ (c r : CSt) : CSt := { c with a := { (c.a.mvH r.a) with wants := r.a.wants }, within := r.within, pn := r.pn, tn := r.tn, bh := r.bh, c := c.c.mv r.c }
theorem zYU (f : List Dat) : zA5 (fnC 4352 (x8 d f)) = zNQ (zA5 d) ((zA5 d).hear (zC7 f 0)) := by kernel_rfl
def zMF (c r : CSt) : CSt := { c with a := { (c.a.mvT r.a) with wants := r.a.wants }, c := c.c.mv r.c }
theorem zYO : zA5 (fnC 4416 (x1 d)) = zMF (zA5 d) (zA5 d).tick := by kernel_rfl
def zPz (c r : CSt) : CSt := { c with a := { (c.a.mvX r.a) with wants := r.a.wants, off := r.a.off, len := r.a.len, L := r.a.L }, pn := r.pn, owe := r.owe, c := { c.c with qf := r.c.qf, qt := r.c.qt, po := r.c.po, pl := r.c.pl, pL := r.c.pL, says := r.c.says, asks := r.c.asks } }
theorem zYT : zA5 (fnC 4480 (x2 d a)) = zPz (zA5 d) ((zA5 d).nextR a.asB).2.2 := by kernel_rfl
theorem zOu : (fnC 4488 (x2 d a)).asB = ((zA5 d).nextR a.asB).2.1 := by kernel_rfl
end
theorem zZh (c : Core) : c.imm c.open_.2 := by
 unfold Core.open_;split
 ·exact ⟨rfl, rfl, rfl, rfl⟩
 ·exact Core.imm.trans (b := ({ c with st := 2, l := c.l.mv c.l.open_.2 } : Core)) ⟨rfl, rfl, rfl, rfl⟩ (Core.act_imm _ _)
theorem xDI (c : Core) (st : Int) : c.imm (c.fin st) := ⟨rfl, rfl, rfl, rfl⟩
theorem zX2 (c : Core) : c.imm c.close.2 := by
 unfold Core.close;split
 ·exact xDI c 5
 split
 ·have h := Core.imm.trans (a := c) (b := ({ c with st := 4, l := c.l.mv c.l.close.2 } : Core)) ⟨rfl, rfl, rfl, rfl⟩ (Core.act_imm _ c.l.close.1)
  exact ⟨h.1, h.2.1, h.2.2.1, h.2.2.2⟩
 ·exact ⟨rfl, rfl, rfl, rfl⟩
theorem zRS (d : Dat) : zA5 (fnC 4096 (x1 d)) = { zA5 d with c := (zA5 d).c.open_.2 } := by rw [zYS, zRw (zZh _)]
theorem zOv (d : Dat) : zA5 (fnC 4160 (x1 d)) = { zA5 d with c := (zA5 d).c.close.2 } := by rw [zUw, zRw (zX2 _)]
theorem zIi (a : ASt) (st : Int) (qt : List UInt8) (pn : Int) : zA2 a st qt pn = { a with left := (zA2 a st qt pn).left, wants := (zA2 a st qt pn).wants } := by
 unfold zA2;split
 ·exact ASt.setWant_eq _ _
 ·rfl
theorem zOr (d a : Dat) : zA5 (fnC 4224 (x2 d a)) = ((zA5 d).write a.asS).2 := by
 rw [zUu];unfold wrR zEz CSt.write;generalize zA5 d = c;split
 ·rfl
 ·show ({ c with c := { c.c with qt := c.c.qt ++ zFN a.asS c.c.qr c.c.qt }, a := { c.a with left := (zA2 c.a c.c.st (c.c.qt ++ zFN a.asS c.c.qr c.c.qt) c.pn).left, wants := (zA2 c.a c.c.st (c.c.qt ++ zFN a.asS c.c.qr c.c.qt) c.pn).wants } } : CSt) = { c with c := { c.c with qt := c.c.qt ++ zFN a.asS c.c.qr c.c.qt }, a := zA2 c.a c.c.st (c.c.qt ++ zFN a.asS c.c.qr c.c.qt) c.pn }
  rw [← zIi]
theorem zLl (d a : Dat) : (fnC 4225 (x2 d a)).asI = ((zA5 d).write a.asS).1 := by
 rw [zSD];unfold wrR zEz CSt.write;split <;> rfl
theorem zTj {c X : CSt} (h : zNQ c X = X) : zNQ c X.want = X.want := by
 have e := zIi X.a X.c.st X.c.qt X.pn;have h2 : ({ X with a := { (c.a.mvH X.a) with wants := X.a.wants } } : CSt) = X := by
  have := congrArg CSt.a h;have this : { (c.a.mvH X.a) with wants := X.a.wants } = X.a := this
  rw [this]
 have h3 : { (c.a.mvH X.a) with wants := X.a.wants } = X.a := congrArg CSt.a h
 show zNQ c { X with a := zA2 X.a X.c.st X.c.qt X.pn } = { X with a := zA2 X.a X.c.st X.c.qt X.pn }
 have ha : { (c.a.mvH (zA2 X.a X.c.st X.c.qt X.pn)) with wants := (zA2 X.a X.c.st X.c.qt X.pn).wants } = zA2 X.a X.c.st X.c.qt X.pn := by
  rw [e];generalize (zA2 X.a X.c.st X.c.qt X.pn).left = u;generalize (zA2 X.a X.c.st X.c.qt X.pn).wants = v;rw [← h3];rfl
 have hr : zNQ c { X with a := zA2 X.a X.c.st X.c.qt X.pn } = { zNQ c X with a := { (c.a.mvH (zA2 X.a X.c.st X.c.qt X.pn)) with wants := (zA2 X.a X.c.st X.c.qt X.pn).wants } } := rfl
 rw [hr, ha, h]
theorem zWU (c : CSt) (f : Frm) : zNQ c (c.hear f) = c.hear f := by
 show zNQ c (c.how f).want = (c.how f).want;refine zTj ?_;unfold CSt.how;split
 ·rfl
 split
 ·rfl
 split
 ·rfl
 ·rfl
theorem zRU (d : Dat) (f : List Dat) : zA5 (fnC 4352 (x8 d f)) = (zA5 d).hear (zC7 f 0) := by rw [zYU, zWU]
theorem zS1 {c X : CSt} (h : zMF c X = X) : zMF c X.want = X.want := by
 have e := zIi X.a X.c.st X.c.qt X.pn;have h3 : { (c.a.mvT X.a) with wants := X.a.wants } = X.a := congrArg CSt.a h
 show zMF c { X with a := zA2 X.a X.c.st X.c.qt X.pn } = { X with a := zA2 X.a X.c.st X.c.qt X.pn }
 have ha : { (c.a.mvT (zA2 X.a X.c.st X.c.qt X.pn)) with wants := (zA2 X.a X.c.st X.c.qt X.pn).wants } = zA2 X.a X.c.st X.c.qt X.pn := by
  rw [e];generalize (zA2 X.a X.c.st X.c.qt X.pn).left = u;generalize (zA2 X.a X.c.st X.c.qt X.pn).wants = v;rw [← h3];rfl
 have hr : zMF c { X with a := zA2 X.a X.c.st X.c.qt X.pn } = { zMF c X with a := { (c.a.mvT (zA2 X.a X.c.st X.c.qt X.pn)) with wants := (zA2 X.a X.c.st X.c.qt X.pn).wants } } := rfl
 rw [hr, ha, h]
theorem zZN (c : Core) : c.mv c.tick = c.tick := by
 unfold Core.tick;split
 ·split
  ·rfl
  ·rfl
 ·rfl
theorem zTN (c : CSt) : zMF c c.tick = c.tick := by
 show zMF c c.tick1.want = c.tick1.want;refine zS1 ?_;have hm := zZN c.c;unfold CSt.tick1;simp only;split
 ·split
  ·show ({ c with a := { (c.a.mvT (c.a.mvT c.a.tick.2)) with wants := c.a.wants }, c := c.c.mv (c.c.tick.fin 6) } : CSt) = { c with a := c.a.mvT c.a.tick.2, c := c.c.tick.fin 6 }
   have e : c.c.mv (c.c.tick.fin 6) = c.c.tick.fin 6 := by
    have := congrArg (fun x : Core => x.fin 6) hm;show c.c.mv (c.c.tick.fin 6) = _;rw [← this];rfl
   rw [e];rfl
  ·show ({ c with a := { (c.a.mvT (c.a.mvT c.a.tick.2)) with wants := c.a.wants }, c := c.c.mv c.c.tick } : CSt) = { c with a := c.a.mvT c.a.tick.2, c := c.c.tick }
   rw [hm];rfl
 ·show ({ c with a := { (c.a.mvT c.a) with wants := c.a.wants }, c := c.c.mv c.c.tick } : CSt) = { c with c := c.c.tick }
  rw [hm];rfl
theorem zIs (d : Dat) : zA5 (fnC 4416 (x1 d)) = (zA5 d).tick := by rw [zYO, zTN]
theorem zHv {c X : CSt} (h : zPz c X = X) : zPz c X.want = X.want := by
 have e := zIi X.a X.c.st X.c.qt X.pn;have h3 : { (c.a.mvX X.a) with wants := X.a.wants, off := X.a.off, len := X.a.len, L := X.a.L } = X.a := congrArg CSt.a h
 show zPz c { X with a := zA2 X.a X.c.st X.c.qt X.pn } = { X with a := zA2 X.a X.c.st X.c.qt X.pn }
 have ha : { (c.a.mvX (zA2 X.a X.c.st X.c.qt X.pn)) with wants := (zA2 X.a X.c.st X.c.qt X.pn).wants, off := (zA2 X.a X.c.st X.c.qt X.pn).off, len := (zA2 X.a X.c.st X.c.qt X.pn).len, L := (zA2 X.a X.c.st X.c.qt X.pn).L } = zA2 X.a X.c.st X.c.qt X.pn := by
  rw [e];generalize (zA2 X.a X.c.st X.c.qt X.pn).left = u;generalize (zA2 X.a X.c.st X.c.qt X.pn).wants = v;rw [← h3];rfl
 have hr : zPz c { X with a := zA2 X.a X.c.st X.c.qt X.pn } = { zPz c X with a := { (c.a.mvX (zA2 X.a X.c.st X.c.qt X.pn)) with wants := (zA2 X.a X.c.st X.c.qt X.pn).wants, off := (zA2 X.a X.c.st X.c.qt X.pn).off, len := (zA2 X.a X.c.st X.c.qt X.pn).len, L := (zA2 X.a X.c.st X.c.qt X.pn).L } } := rfl
 rw [hr, ha, h]
theorem zWp (c : CSt) (may : Bool) : zPz c (c.nextR may).2.2 = (c.nextR may).2.2 := by
 unfold CSt.nextR;split
 ·rfl
 split
 ·exact zHv rfl
 split
 ·exact zHv rfl
 ·exact zHv rfl
theorem zRT (d a : Dat) : zA5 (fnC 4480 (x2 d a)) = ((zA5 d).nextR a.asB).2.2 := by rw [zYT, zWp]
end
end Go.Proofs.YtenkabjkgngcdaaGreat.Ab
namespace Go.Proofs.YtenkabjkgngcdaaGreat.Ab
open Go
noncomputable section
abbrev gD (l : List Dat) (i : Nat) : Dat := l.getD i (.dI 0)
abbrev zAm (L : List (List Dat)) (g : List Dat) (i : Nat) (st : List Dat) : Rho := ⟨fun n => bif Nat.blt n 1 then .dL L else bif Nat.blt n 9 then gD g (n - 1) else bif Nat.blt n 10 then .dI i else gD st (n - 10), fnC⟩
structure LokC (i : Nat) (o n : Int) (L : List (List Dat)) : Prop where
 ho : 0 ≤ o
 hn : 0 ≤ n
 le : o + n ≤ (L.length : Int)
 nN : n ≤ (i : Int)
abbrev PIg (g : List Dat) (N : Int) (cA cB : CSt) (sA sB : SSt) (wA wB rA rB : List UInt8) (lA lB : List (List Dat)) : Prop := PI N (gI g 2) (gI g 7) (gI g 6) cA cB sA sB wA wB rA rB lA lB
structure SOK (g : List Dat) (i : Nat) (st : List Dat) : Prop where
 pi : ∃ sA sB, PIg g (9 * (i : Int)) (zA5 (gD st 0)) (zA5 (gD st 1)) sA sB (gS st 2) (gS st 3) (gS st 5) (gS st 4) (zBE (gL st 9) (gI st 7) (gI st 8)) (zBE (gL st 12) (gI st 10) (gI st 11))
 bad : gB st 6 = false
 l0 : LokC i (gI st 7) (gI st 8) (gL st 9)
 l1 : LokC i (gI st 10) (gI st 11) (gL st 12)
 w0 : (gS st 2).length ≤ 40 * i
 w1 : (gS st 3).length ≤ 40 * i
def IPc (L : List (List Dat)) (g : List Dat) (i : Nat) (ρ : Rho) : Prop := ∃ st, ρ = zAm L g i st ∧ st.length = 13 ∧ SOK g i st
theorem zCT {g : List Dat} {i : Nat} {st : List Dat} {N : Int} {cA cB : CSt} {sA sB : SSt} {wA wB rA rB : List UInt8} {lA lB : List (List Dat)} (h : PIg g N cA cB sA sB wA wB rA rB lA lB) (hN : N ≤ 9 * (i : Int)) (e0 : zA5 (gD st 0) = cA) (e1 : zA5 (gD st 1) = cB) (e2 : gS st 2 = wA) (e3 : gS st 3 = wB) (e5 : gS st 5 = rA) (e4 : gS st 4 = rB)
  (eA : zBE (gL st 9) (gI st 7) (gI st 8) = lA) (eB : zBE (gL st 12) (gI st 10) (gI st 11) = lB) (b : gB st 6 = false) (l0 : LokC i (gI st 7) (gI st 8) (gL st 9)) (l1 : LokC i (gI st 10) (gI st 11) (gL st 12)) (w0 : (gS st 2).length ≤ 40 * i) (w1 : (gS st 3).length ≤ 40 * i) : SOK g i st := by
 subst e0; subst e1; subst e2; subst e3; subst e5; subst e4; subst eA; subst eB;exact ⟨⟨sA, sB, h.mono hN⟩, b, l0, l1, w0, w1⟩
theorem Half.chOk {N n1 room k : Int} {cA cB : CSt} {sA sB : SSt} {wA rB : List UInt8} {lA : List (List Dat)} (h : Half N n1 room k cA sA wA cB sB rB lA) : chOk cA.a.len cA.c.qt cA.bh cA.pn cA.owe k room := by
 obtain ⟨v, W, a, _⟩ := h.ch.snd;have t := h.ch.tn; have t2 := h.ch.to; have cg := h.ch.cg;have r1 := a.rel.len; have r2 := a.rel.lenk; have r3 := cg.ake;have o0 := a.ow0;exact ⟨by omega, a.ql, by omega, a.pn0, a.pn1, o0, by omega⟩
theorem Half.pre {N n1 room k : Int} {cA cB : CSt} {sA sB : SSt} {wA rB : List UInt8} {lA : List (List Dat)} (h : Half N n1 room k cA sA wA cB sB rB lA) : rB <+: wA := by
 obtain ⟨v, W, a, a2, _⟩ := h.ch.snd;have h1 : rB <+: pays (tk sA sB) := ⟨cB.bh, h.dat⟩;have h2 : pays (tk sA sB) <+: pays (zBf sA) := by
  refine ⟨pays ((zBf sA).drop sB.got.toNat), ?_⟩;rw [← zBr, List.take_append_drop]
 have h3 : pays (zBf sA) <+: W := by
  have := a.pay;rw [zBr, List.append_assoc] at this;exact ⟨_, this⟩
 exact ((h1.trans h2).trans h3).trans a2
theorem Half.rows {N n1 room k : Int} {cA cB : CSt} {sA sB : SSt} {wA rB : List UInt8} {lA : List (List Dat)} (h : Half N n1 room k cA sA wA cB sB rB lA) : ∀ c ∈ lA, (gS c 6).length ≤ n1.toNat ∧ gI c 0 = 7 := fun c hc => by
 obtain ⟨f1, f2⟩ := h.ln.fine c hc;have f2 : ((gS c 6).length : Int) ≤ n1 := f2;exact ⟨by omega, f1⟩
theorem SOK.pairOk {g : List Dat} {i : Nat} {st : List Dat} (h : SOK g i st) (hi : i ≤ 400) : pairOk [.dI (zA5 (gD st 0)).a.len, .dS (zA5 (gD st 0)).c.qt, .dS (zA5 (gD st 0)).bh, .dI (zA5 (gD st 0)).pn, .dI (zA5 (gD st 0)).owe, .dI (zA5 (gD st 1)).a.len, .dS (zA5 (gD st 1)).c.qt, .dS (zA5 (gD st 1)).bh, .dI (zA5 (gD st 1)).pn, .dI (zA5 (gD st 1)).owe,
  .dS (gS st 2), .dS (gS st 3), .dS (gS st 4), .dS (gS st 5), .dB (gB st 6), .dI (gI st 7), .dI (gI st 8), .dL (gL st 9), .dI (gI st 10), .dI (gI st 11), .dL (gL st 12), .dI (gI g 2), .dI (gI g 6), .dI (gI g 7)] := by
 obtain ⟨sA, sB, hA, hB⟩ := h.pi;have cg := hA.ch.cg;have a := h.l0; have b := h.l1;refine ⟨hA.chOk, hB.chOk, hA.pre, hB.pre, h.bad, ⟨a.ho, a.hn, a.le, hA.rows⟩, ⟨b.ho, b.hn, b.le, hB.rows⟩, ?_, cg.r4096, ?_, ?_⟩
 ·show 0 ≤ gI g 2;have := cg.n3;omega
 ·show gI st 8 ≤ 100000;have := a.nN;omega
 ·show gI st 11 ≤ 100000;have := b.nN;omega
theorem EqsOk.app {ρ' ρ : Rho} : ∀ {a b : Eqs}, EqsOk ρ' ρ a → EqsOk ρ' ρ b → EqsOk ρ' ρ (a ++ b)
 | [], _, _, h => h
 | _ :: _, _, ha, h => ⟨ha.1, EqsOk.app ha.2 h⟩
theorem xBw {ρ' ρ : Rho} {d : Nat} {X : Tm} (h : ρ'.val d = @Tm.den ρ X) : EqsOk ρ' ρ (chE d X) := by
 have e : ∀ j, @Tm.den ρ' (prj (vt d) j) = @Tm.den ρ (prj X j) := fun j => by
  show ((ρ'.val d).asL.getD 0 []).getD j (.dI 0) = _;rw [h]; rfl
 have eS : ∀ (s : Sr) j, zTx s (@Tm.den ρ' (prj (vt d) j)) (@Tm.den ρ (prj X j)) := fun s j => by rw [e j]; cases s <;> rfl
 have eL : ∀ j, zTx .sI (@Tm.den ρ' (.len (prj (vt d) j))) (@Tm.den ρ (.len (prj X j))) := fun j => by
  show ((@Tm.den ρ' (prj (vt d) j)).asS.length : Int) = ((@Tm.den ρ (prj X j)).asS.length : Int);rw [e j]
 unfold chE
 repeat' (first | exact trivial | refine ⟨eS _ _, ?_⟩ | refine ⟨eL _, ?_⟩)
section
variable {L : List (List Dat)} {g : List Dat} {i : Nat} {st : List Dat}
theorem zAA {X Y w0 w1 r0 r1 bad o0 n0 L0 o1 n1 L1 : Tm} (hi : i ≤ 300)
  (h : SOK g (i + 1) [@Tm.den (zAm L g i st) X, @Tm.den (zAm L g i st) Y, @Tm.den (zAm L g i st) w0, @Tm.den (zAm L g i st) w1, @Tm.den (zAm L g i st) r0, @Tm.den (zAm L g i st) r1, @Tm.den (zAm L g i st) bad, @Tm.den (zAm L g i st) o0, @Tm.den (zAm L g i st) n0, @Tm.den (zAm L g i st) L0, @Tm.den (zAm L g i st) o1, @Tm.den (zAm L g i st) n1, @Tm.den (zAm L g i st) L1]) :
  NxP (zAm L g i st) (IPc L g (i + 1)) (tlE X Y w0 w1 r0 r1 bad o0 n0 L0 o1 n1 L1) := by
 unfold tlE;refine npT ?_ (npL (ρ' := zAm L g (i + 1) [@Tm.den (zAm L g i st) X, @Tm.den (zAm L g i st) Y, @Tm.den (zAm L g i st) w0, @Tm.den (zAm L g i st) w1, @Tm.den (zAm L g i st) r0, @Tm.den (zAm L g i st) r1, @Tm.den (zAm L g i st) bad, @Tm.den (zAm L g i st) o0, @Tm.den (zAm L g i st) n0, @Tm.den (zAm L g i st) L0, @Tm.den (zAm L g i st) o1, @Tm.den (zAm L g i st) n1, @Tm.den (zAm L g i st) L1]) ⟨_, rfl, rfl, h⟩ ?_)
 ·have hp := h.pairOk (by omega)
  generalize hx : @Tm.den (zAm L g i st) X = dX at hp;generalize hy : @Tm.den (zAm L g i st) Y = dY at hp;have e : (@Tm.den (zAm L g i st) (.app 5120 (rgE X Y w0 w1 r0 r1 bad o0 n0 L0 o1 n1 L1))).asB = decide (Ab.pairOk [@Tm.den (zAm L g i st) (prj X 21), @Tm.den (zAm L g i st) (prj X 35), @Tm.den (zAm L g i st) (prj X 38), @Tm.den (zAm L g i st) (prj X 29), @Tm.den (zAm L g i st) (prj X 33), @Tm.den (zAm L g i st) (prj Y 21), @Tm.den (zAm L g i st) (prj Y 35), @Tm.den (zAm L g i st) (prj Y 38), @Tm.den (zAm L g i st) (prj Y 29), @Tm.den (zAm L g i st) (prj Y 33), @Tm.den (zAm L g i st) w0, @Tm.den (zAm L g i st) w1, @Tm.den (zAm L g i st) r0, @Tm.den (zAm L g i st) r1, @Tm.den (zAm L g i st) bad, @Tm.den (zAm L g i st) o0, @Tm.den (zAm L g i st) n0, @Tm.den (zAm L g i st) L0, @Tm.den (zAm L g i st) o1, @Tm.den (zAm L g i st) n1, @Tm.den (zAm L g i st) L1, gD g 2, gD g 6, gD g 7]) := by kernel_rfl
  rw [e];refine decide_eq_true ?_;have ex : ∀ j, @Tm.den (zAm L g i st) (prj X j) = ((dX.asL.getD 0 []).getD j (.dI 0)) := fun j => by rw [← hx]; rfl
  have ey : ∀ j, @Tm.den (zAm L g i st) (prj Y j) = ((dY.asL.getD 0 []).getD j (.dI 0)) := fun j => by rw [← hy]; rfl
  rw [ex, ex, ex, ex, ex, ey, ey, ey, ey, ey];exact hp
 ·refine ⟨?_, EqsOk.app (xBw rfl) (EqsOk.app (xBw rfl) ⟨rfl, rfl, rfl, rfl, rfl, rfl, rfl, rfl, rfl, rfl, rfl, trivial⟩)⟩;show ((i + 1 : Nat) : Int) = IntKind.i64.wrap ((i : Int) + 1);rw [i64wrap (by omega) (by omega)]; rfl
end
end
end Go.Proofs.YtenkabjkgngcdaaGreat.Ab
