import Derived.Test.YtenkabjkgngcdaaGreatKc9
import Derived.Test.YtenkabjkgngcdaaGreatKb6
set_option linter.unusedVariables false
set_option linter.unusedSimpArgs false
set_option linter.unusedSectionVars false
namespace Go.Proofs.YtenkabjkgngcdaaGreat.Ab
open Go
noncomputable section
abbrev p0 (c : CSt) : Int :=
 c.a.tries
abbrev p1 (c : CSt) : Int :=
 c.a.left
abbrev p2 (c : CSt) : Bool :=
 c.a.asks
abbrev p3 (c : CSt) : Bool :=
 c.a.wants
abbrev p4 (c : CSt) : Bool :=
 c.a.failed
abbrev p5 (c : CSt) : Bool :=
 c.a.poll
abbrev p6 (c : CSt) : Int :=
 c.c.l.st
abbrev p7 (c : CSt) : Bool :=
 c.c.l.listens
abbrev p8 (c : CSt) : Int :=
 c.c.l.tries
abbrev p9 (c : CSt) : Int :=
 c.c.l.most
abbrev p10 (c : CSt) : Int :=
 c.c.qf
abbrev p11 (c : CSt) : List UInt8 :=
 c.c.qt
abbrev p12 (c : CSt) : Int :=
 c.c.st
abbrev p13 (c : CSt) : Bool :=
 c.c.asked
abbrev p14 (c : CSt) : Int :=
 c.c.po
abbrev p15 (c : CSt) : Int :=
 c.c.pl
abbrev p16 (c : CSt) : List (List Dat) :=
 c.c.pL
abbrev p17 (c : CSt) : Int :=
 c.c.left
abbrev p18 (c : CSt) : Int :=
 c.c.says.d
abbrev p19 (c : CSt) : Bool :=
 c.c.says.c
abbrev p20 (c : CSt) : Int :=
 c.c.says.k
abbrev p21 (c : CSt) : Bool :=
 c.c.says.pf
abbrev p22 (c : CSt) : Int :=
 c.c.says.ns
abbrev p23 (c : CSt) : Int :=
 c.c.says.nr
abbrev p24 (c : CSt) : List UInt8 :=
 c.c.says.info
abbrev p25 (c : CSt) : Int :=
 c.c.asks.d
abbrev p26 (c : CSt) : Bool :=
 c.c.asks.c
abbrev p27 (c : CSt) : Int :=
 c.c.asks.k
abbrev p28 (c : CSt) : Bool :=
 c.c.asks.pf
abbrev p29 (c : CSt) : Int :=
 c.c.asks.ns
abbrev p30 (c : CSt) : Int :=
 c.c.asks.nr
abbrev p31 (c : CSt) : List UInt8 :=
 c.c.asks.info
theorem zQl {c : Core} (h : 0 < c.left) (h2 : IntKind.i64.wrap (c.left - 1) = 0) : c.tick = c.mv (({ c with left := IntKind.i64.wrap (c.left - 1), l := c.l.mv c.l.due.2 } : Core).act c.l.due.1) := by
 unfold Core.tick; rw [if_pos h, if_pos h2]
theorem zQk {c : Core} (h : 0 < c.left) (h2 : ¬ IntKind.i64.wrap (c.left - 1) = 0) : c.tick = { c with left := IntKind.i64.wrap (c.left - 1) } := by
 unfold Core.tick; rw [if_pos h, if_neg h2]
theorem zQj {c : Core} (h : c.left ≤ 0) : c.tick = c := by
 unfold Core.tick; rw [if_neg (by omega)]
theorem zOT {c : CSt} {C : Core} (ht : c.c.tick = C) (hs : ¬ C.st = 3) : c.tick1 = { c with c := C } := by
 subst ht; unfold CSt.tick1; exact if_neg hs
theorem zOU {c : CSt} {C : Core} (ht : c.c.tick = C) (hs : C.st = 3) (hf : c.a.tick.1.failed = true) : c.tick1 = ({ ({ c with c := C } : CSt) with a := c.a.mvT c.a.tick.2 } : CSt).fail := by
 subst ht; unfold CSt.tick1; exact (if_pos hs).trans (if_pos hf)
theorem zHb {c : CSt} {C : Core} (ht : c.c.tick = C) (hs : C.st = 3) (hf : c.a.tick.1.failed = false) : c.tick1 = ({ ({ c with c := C } : CSt) with a := c.a.mvT c.a.tick.2 } : CSt) := by
 subst ht; unfold CSt.tick1; exact (if_pos hs).trans (if_neg (by rw [hf]; exact Bool.false_ne_true))
theorem zCC {c X : CSt} {r : ASt} (h : c.tick1 = X) (hw : zA2 X.a X.c.st X.c.qt X.pn = r) : c.tick = { X with a := r } := by
 show c.tick1.want = _;rw [h, ← hw];rfl
abbrev zNB : Tm := (tp [y0, y1, y2, y3])
abbrev zNC : Tm := (.ib .sub .i64 y53 (.ci 1))
abbrev zAp : Tm :=
 (tp [(.app 2309 zNB), y1, (.app 2310 zNB), y3, y34, y35, y36, y42, y44, y47, y48, y49, y50, y51, y52, zNC, y54, y55, y56, y57, y58, y59, y60, y61, y62, y63, y64, y65, y66, y67, (.app 2304 zNB), (.app 2305 zNB), (.app 2306 zNB), (.app 2307 zNB), (.app 2308 zNB)])
abbrev zAy : Tm :=
 (tp [y4, y5, y6, y7, y8, y9, y10, y11, y12, y13, y14, y15, y16, y17, y18, y19, y20, y21, y22, y23, y24, y25, y26, y27])
abbrev zQX : Tm := (.app 2560 zAp)
abbrev zQW : Tm := (.app 2561 zAp)
abbrev zQV : Tm := (.app 2562 zAp)
abbrev zQU : Tm := (.app 2563 zAp)
abbrev zSM : Tm := (.app 2565 zAp)
abbrev zC0 : Tm :=
 (tp [zQX, zQW, zQV, zQU, (.app 2564 zAp), zSM, y36, y44])
abbrev zDv : Tm := (.ci 0)
abbrev zEZ : Tm :=
 (tp [y4, y5, y6, y7, y8, (.app 900 zAy), (.app 901 zAy), y11, y12, y13, (.app 902 zAy), y15, (.app 903 zAy), y17, y18, y19, y20, y21, y22, y23, y24, y25, y26, (.app 904 zAy), (.ib .eql .i64 y29 zDv)])
abbrev zEW : Tm :=
 (tp [y4, y5, y6, y7, y8, (.app 900 zAy), (.app 901 zAy), y11, y12, y13, (.app 902 zAy), y15, (.app 903 zAy), y17, y18, y19, y20, y21, y22, y23, y24, y25, y26, (.app 904 zAy), (.cb false)])
abbrev zCu : Tm :=
 (tp [y0, y1, y2, y3, y34, y35, y36, y44])
abbrev zQT : Tm := (.app 2566 zAp)
abbrev zRf : Sr × Tm × Tm := (.sB, y81, (.app 2567 zAp))
abbrev zRe : Sr × Tm × Tm := (.sI, y86, (.app 2572 zAp))
abbrev zRd : Sr × Tm × Tm := (.sB, y87, (.app 2573 zAp))
abbrev zRc : Sr × Tm × Tm := (.sI, y88, (.app 2574 zAp))
abbrev zRb : Sr × Tm × Tm := (.sB, y89, (.app 2575 zAp))
abbrev zRa : Sr × Tm × Tm := (.sI, y90, (.app 2576 zAp))
abbrev zQZ : Sr × Tm × Tm := (.sI, y91, (.app 2577 zAp))
abbrev zQY : Sr × Tm × Tm := (.sS, y92, (.app 2578 zAp))
abbrev zPo : Sr × Tm × Tm := (.sI, y68, (.app 900 zAy))
abbrev zPn : Sr × Tm × Tm := (.sB, y70, (.app 902 zAy))
abbrev zPm : Sr × Tm × Tm := (.sB, y72, (.app 903 zAy))
abbrev zPl : Sr × Tm × Tm := (.sB, y73, (.app 904 zAy))
abbrev zVJ : Sr × Tm × Tm := (.sI, y82, (.app 2568 zAp))
abbrev zVI : Sr × Tm × Tm := (.sI, y83, (.app 2569 zAp))
abbrev zVH : Sr × Tm × Tm := (.sI, y85, (.app 2571 zAp))
abbrev zVG : Sr × Tm × Tm := (.sI, y93, (.app 2579 zAp))
abbrev zVF : Sr × Tm × Tm := (.sB, y94, (.app 2580 zAp))
abbrev zVE : Sr × Tm × Tm := (.sI, y95, (.app 2581 zAp))
abbrev zVD : Sr × Tm × Tm := (.sB, y96, (.app 2582 zAp))
abbrev zVC : Sr × Tm × Tm := (.sI, y97, (.app 2583 zAp))
abbrev zVB : Sr × Tm × Tm := (.sI, y98, (.app 2584 zAp))
abbrev zVA : Sr × Tm × Tm := (.sS, y99, (.app 2585 zAp))
abbrev zV7 : Sr × Tm × Tm := (.sI, y69, (.app 832 zEZ))
abbrev zV6 : Sr × Tm × Tm := (.sB, y71, (.app 833 zEZ))
abbrev zSO : Sr × Tm × Tm := (.sI, y78, (.app 2564 zAp))
abbrev zV9 : Sr × Tm × Tm := (.sI, (.len y79), (.len zSM))
abbrev zV8 : Sr × Tm × Tm := (.sL, y84, (.app 2570 zAp))
abbrev zV5 : Sr × Tm × Tm := (.sI, y69, (.app 832 zEW))
abbrev zV4 : Sr × Tm × Tm := (.sB, y71, (.app 833 zEW))
abbrev xF5 : Tree (Option Eqs) := (.fork (.app 2501 zCu) (.leaf (some [(.sI, y80, (.ci 6)), (.sB, y81, y49), (.sI, y82, (.ci 0)), (.sI, y83, (.ci 0)), (.sI, y85, (.ci 0)), (.sI, y86, y54), (.sB, y87, y55), (.sI, y88, y56), (.sB, y89, y57), (.sI, y90, y58), (.sI, y91, y59), (.sS, y92, y60), (.sI, y93, (.ci 0)), (.sB, y94, (.cb false)), (.sI, y95, (.ci 0)), (.sB, y96, (.cb false)), (.sI, y97, (.ci 0)), (.sI, y98, (.ci 0)), (.sS, y99, (.cs [])), (.sI, y74, (.app 2496 zCu)), (.sB, y75, (.app 2497 zCu)), (.sI, y76, (.app 2498 zCu)), (.sI, y77, (.app 2499 zCu)), (.sI, y68, (.app 900 zAy)), (.sI, y69, (.app 901 zAy)), (.sB, y70, (.app 902 zAy)), (.sB, y71, y15), (.sB, y72, (.app 903 zAy)), (.sB, y73, (.app 904 zAy)), (.sI, y78, (.app 2500 zCu)), (.sI, (.len y79), (.ci 0)), (.sI, y78, (.app 2500 zCu)), (.sS, y79, (.cs [])), (.sL, y84, (.cb false))])) .fail)
abbrev zKQ : Sr × Tm × Tm := (.sI, y80, y48)
abbrev zKP : Sr × Tm × Tm := (.sB, y81, y49)
abbrev zKO : Sr × Tm × Tm := (.sI, y82, y50)
abbrev zKN : Sr × Tm × Tm := (.sI, y83, y51)
abbrev zKM : Sr × Tm × Tm := (.sI, y86, y54)
abbrev zKL : Sr × Tm × Tm := (.sB, y87, y55)
abbrev zKK : Sr × Tm × Tm := (.sI, y88, y56)
abbrev zKJ : Sr × Tm × Tm := (.sB, y89, y57)
abbrev zKI : Sr × Tm × Tm := (.sI, y90, y58)
abbrev zKH : Sr × Tm × Tm := (.sI, y91, y59)
abbrev zKG : Sr × Tm × Tm := (.sS, y92, y60)
abbrev zKF : Sr × Tm × Tm := (.sI, y93, y61)
abbrev zKE : Sr × Tm × Tm := (.sB, y94, y62)
abbrev zKD : Sr × Tm × Tm := (.sI, y95, y63)
abbrev zKC : Sr × Tm × Tm := (.sB, y96, y64)
abbrev zKB : Sr × Tm × Tm := (.sI, y97, y65)
abbrev zKA : Sr × Tm × Tm := (.sI, y98, y66)
abbrev zK9 : Sr × Tm × Tm := (.sS, y99, y67)
abbrev zK6 : Sr × Tm × Tm := (.sI, y74, y0)
abbrev zK5 : Sr × Tm × Tm := (.sB, y75, y1)
abbrev zK4 : Sr × Tm × Tm := (.sI, y76, y2)
abbrev zK3 : Sr × Tm × Tm := (.sI, y77, y3)
abbrev zIc : Sr × Tm × Tm := (.sI, y78, y34)
abbrev zSN : Sr × Tm × Tm := (.sI, (.len y79), (.len y35))
abbrev zK8 : Sr × Tm × Tm := (.sS, y79, y35)
abbrev zK7 : Sr × Tm × Tm := (.sL, y84, y52)
def xG5 : (Tree (Option Eqs)) :=
 (.fork (.ib .gtr .i64 y53 zDv) (.fork (.ib .eql .i64 zNC zDv) (.fork (.app 2311 zNB) (.fork (.app 2586 zAp) (.fork (.ib .eql .u8 zQT (.ci 3)) (.fork (.app 905 zAy) (.fork (.app 899 zAy) (.fork (.app 2501 zC0) (.leaf (some [(.sI, y80, (.ci 6)), zRf, (.sI, y82, zDv), (.sI, y83, zDv), (.sI, y85, zDv), zRe, zRd, zRc, zRb, zRa, zQZ, zQY, (.sI,
 y93, zDv), (.sB, y94, (.cb false)), (.sI, y95, zDv), (.sB, y96, (.cb false)), (.sI, y97, zDv), (.sI, y98, zDv), (.sS, y99, (.cs [])), (.sI, y74, (.app 2496 zC0)), (.sB, y75, (.app 2497 zC0)), (.sI, y76, (.app 2498 zC0)), (.sI, y77, (.app 2499 zC0)), zPo, (.sI, y69, (.app 901 zAy)), zPn, (.sB, y71, y15), zPm, zPl, (.sI, y78, (.app 2500 zC0)), (.sI, (.len y79),
 zDv), (.sI, y78, (.app 2500 zC0)), (.sS, y79, (.cs [])), (.sL, y84, (.cb false))])) .fail) (.fork (.ib .gtr .i64 (.len zSM) zDv) (.fork (.app 834 zEZ) (.leaf (some [(.sI, y80, zQT), zRf, zVJ, zVI, zVH, zRe, zRd, zRc, zRb, zRa, zQZ, zQY, zVG, zVF, zVE, zVD, zVC, zVB, zVA, (.sI, y74, zQX), (.sB, y75, zQW), (.sI, y76, zQV),
 (.sI, y77, zQU), zPo, zV7, zPn, zV6, zPm, zPl, zSO, zV9, zSO, (.sS, y79, zSM), zV8])) .fail) (.fork (.app 834 zEW) (.leaf (some [(.sI, y80, zQT), zRf, zVJ, zVI, zVH, zRe, zRd, zRc, zRb, zRa, zQZ, zQY, zVG, zVF, zVE, zVD, zVC, zVB, zVA, (.sI, y74, zQX), (.sB, y75, zQW), (.sI, y76, zQV), (.sI, y77, zQU),
 zPo, zV5, zPn, zV4, zPm, zPl, zSO, zV9, zSO, (.sS, y79, zSM), zV8])) .fail))) .fail) (.leaf (some [(.sI, y80, zQT), zRf, zVJ, zVI, zVH, zRe, zRd, zRc, zRb, zRa, zQZ, zQY, zVG, zVF, zVE, zVD, zVC, zVB, zVA, (.sI, y74, zQX), (.sB, y75, zQW), (.sI, y76, zQV), (.sI, y77, zQU), (.sI, y68, y9), (.sI, y69, y10),
 (.sB, y70, y14), (.sB, y71, y15), (.sB, y72, y16), (.sB, y73, y27), zSO, zV9, zSO, (.sS, y79, zSM), zV8]))) .fail) .fail) (.fork (.ib .eql .u8 y48 (.ci 3)) (.fork (.app 905 zAy) (.fork (.app 899 zAy) xF5 (.fork (.ib .gtr .i64 (.len y35) zDv) (.fork (.app 834 zEZ) (.leaf (some [zKQ, zKP, zKO, zKN, (.sI, y85, zNC), zKM, zKL, zKK, zKJ, zKI, zKH,
 zKG, zKF, zKE, zKD, zKC, zKB, zKA, zK9, zK6, zK5, zK4, zK3, zPo, zV7, zPn, zV6, zPm, zPl, zIc, zSN, zIc, zK8, zK7])) .fail) (.fork (.app 834 zEW) (.leaf (some [zKQ, zKP, zKO, zKN, (.sI, y85, zNC), zKM, zKL, zKK, zKJ, zKI, zKH, zKG, zKF, zKE, zKD, zKC, zKB, zKA, zK9, zK6, zK5,
 zK4, zK3, zPo, zV5, zPn, zV4, zPm, zPl, zIc, zSN, zIc, zK8, zK7])) .fail))) .fail) (.leaf (some [zKQ, zKP, zKO, zKN, (.sI, y85, zNC), zKM, zKL, zKK, zKJ, zKI, zKH, zKG, zKF, zKE, zKD, zKC, zKB, zKA, zK9, zK6, zK5, zK4, zK3, (.sI, y68, y9), (.sI, y69, y10), (.sB, y70, y14), (.sB, y71, y15), (.sB, y72,
 y16), (.sB, y73, y27), zIc, zSN, zIc, zK8, zK7])))) (.fork (.ib .eql .u8 y48 (.ci 3)) (.fork (.app 905 zAy) (.fork (.app 899 zAy) xF5 (.fork (.ib .gtr .i64 (.len y35) zDv) (.fork (.app 834 zEZ) (.leaf (some [zKQ, zKP, zKO, zKN, (.sI, y85, y53), zKM, zKL, zKK, zKJ, zKI, zKH, zKG, zKF, zKE, zKD, zKC, zKB, zKA, zK9, zK6,
 zK5, zK4, zK3, zPo, zV7, zPn, zV6, zPm, zPl, zIc, zSN, zIc, zK8, zK7])) .fail) (.fork (.app 834 zEW) (.leaf (some [zKQ, zKP, zKO, zKN, (.sI, y85, y53), zKM, zKL, zKK, zKJ, zKI, zKH, zKG, zKF, zKE, zKD, zKC, zKB, zKA, zK9, zK6, zK5, zK4, zK3, zPo, zV5, zPn, zV4, zPm, zPl, zIc, zSN,
 zIc, zK8, zK7])) .fail))) .fail) (.leaf (some [zKQ, zKP, zKO, zKN, (.sI, y85, y53), zKM, zKL, zKK, zKJ, zKI, zKH, zKG, zKF, zKE, zKD, zKC, zKB, zKA, zK9, zK6, zK5, zK4, zK3, (.sI, y68, y9), (.sI, y69, y10), (.sB, y70, y14), (.sB, y71, y15), (.sB, y72, y16), (.sB, y73, y27), zIc, zSN, zIc, zK8, zK7]))))
set_option maxRecDepth 100000 in
theorem zZV : SCTick.tree Tryz.prog zXp 20 = xG5 := by kernel_rfl
abbrev xIx (ρ : Rho) := ({ zAd ρ with left := IntKind.i64.wrap ((ρ.val 53).asI - 1), l := (lR ρ).mv (lR ρ).due.2 } : Core)
abbrev zFu (ρ : Rho) := ((aR4 ρ).mvT ((aR4 ρ).tick).2)
abbrev zBm (ρ : Rho) := ((xIx ρ).act (lR ρ).due.1)
abbrev xDC (ρ : Rho) := ({ cR ρ with c := ({ zAd ρ with left := IntKind.i64.wrap ((ρ.val 53).asI - 1) } : Core) } : CSt)
abbrev zTq (ρ : Rho) := ({ ({ cR ρ with c := ((zAd ρ).mv (zBm ρ)) } : CSt) with a := (zFu ρ) } : CSt)
abbrev zTp (ρ : Rho) := ({ ({ cR ρ with c := (zAd ρ) } : CSt) with a := (zFu ρ) } : CSt)
abbrev xDB (ρ : Rho) := ({ (zFu ρ) with left := ((zFu ρ).setWant ((ρ.val 29).asI == 0)).left, wants := ((zFu ρ).setWant ((ρ.val 29).asI == 0)).wants } : ASt)
abbrev xDA (ρ : Rho) := ({ (zFu ρ) with left := ((zFu ρ).setWant false).left, wants := ((zFu ρ).setWant false).wants } : ASt)
abbrev zTo (ρ : Rho) := ({ (xDC ρ) with a := (zFu ρ) } : CSt)
abbrev zWX (ρ : Rho) := ((ρ.val 35).asS.length : Int)
set_option maxHeartbeats 2000000 in
set_option maxRecDepth 100000 in
theorem zZU : SumOK Tryz.prog zXp 20 SCTick 3200 32 fnC := by
 intro ρ hf hok;rw [zZV];rw [show fnC (3200 + 32) (zFf ρ.val SCTick.us) = .dB (decide (okT (cR ρ))) from by kernel_rfl, zEa, decide_eq_true_eq] at hok
 obtain ⟨e0, e1, e2, e3, e4, e5, e6, e7, e8, e9, e10, e11, e12, e13, e14, e15, e16, e17, e18, e19, e20, e21, e22, e23, e24, e25, e26, e27, e28, e29, e30, e31⟩ : vI (zAc SCTick 3200 ρ) 68 = (CSt.tick (cR ρ)).a.tries ∧ vI (zAc SCTick 3200 ρ) 69 = (CSt.tick (cR ρ)).a.left ∧ vB (zAc SCTick 3200 ρ) 70 = (CSt.tick (cR ρ)).a.asks ∧ vB (zAc SCTick 3200 ρ) 71 = (CSt.tick (cR ρ)).a.wants ∧ vB (zAc SCTick 3200 ρ) 72 = (CSt.tick (cR ρ)).a.failed ∧ vB (zAc SCTick 3200 ρ) 73 = (CSt.tick (cR ρ)).a.poll ∧ vI (zAc SCTick 3200 ρ) 74 = (CSt.tick (cR ρ)).c.l.st ∧ vB (zAc SCTick 3200 ρ) 75 = (CSt.tick (cR ρ)).c.l.listens ∧ vI (zAc SCTick 3200 ρ) 76 = (CSt.tick (cR ρ)).c.l.tries ∧ vI (zAc SCTick 3200 ρ) 77 = (CSt.tick (cR ρ)).c.l.most ∧ vI (zAc SCTick 3200 ρ) 78 = (CSt.tick (cR ρ)).c.qf ∧ vS (zAc SCTick 3200 ρ) 79 = (CSt.tick (cR ρ)).c.qt ∧ vI (zAc SCTick 3200 ρ) 80 = (CSt.tick (cR ρ)).c.st ∧ vB (zAc SCTick 3200 ρ) 81 = (CSt.tick (cR ρ)).c.asked ∧ vI (zAc SCTick 3200 ρ) 82 = (CSt.tick (cR ρ)).c.po ∧ vI (zAc SCTick 3200 ρ) 83 = (CSt.tick (cR ρ)).c.pl ∧ vL (zAc SCTick 3200 ρ) 84 = (CSt.tick (cR ρ)).c.pL ∧ vI (zAc SCTick 3200 ρ) 85 = (CSt.tick (cR ρ)).c.left ∧ vI (zAc SCTick 3200 ρ) 86 = (CSt.tick (cR ρ)).c.says.d ∧ vB (zAc SCTick 3200 ρ) 87 = (CSt.tick (cR ρ)).c.says.c ∧ vI (zAc SCTick 3200 ρ) 88 = (CSt.tick (cR ρ)).c.says.k ∧ vB (zAc SCTick 3200 ρ) 89 = (CSt.tick (cR ρ)).c.says.pf ∧ vI (zAc SCTick 3200 ρ) 90 = (CSt.tick (cR ρ)).c.says.ns ∧ vI (zAc SCTick 3200 ρ) 91 = (CSt.tick (cR ρ)).c.says.nr ∧ vS (zAc SCTick 3200 ρ) 92 = (CSt.tick (cR ρ)).c.says.info ∧ vI (zAc SCTick 3200 ρ) 93 = (CSt.tick (cR ρ)).c.asks.d ∧ vB (zAc SCTick 3200 ρ) 94 = (CSt.tick (cR ρ)).c.asks.c ∧ vI (zAc SCTick 3200 ρ) 95 = (CSt.tick (cR ρ)).c.asks.k ∧ vB (zAc SCTick 3200 ρ) 96 = (CSt.tick (cR ρ)).c.asks.pf ∧ vI (zAc SCTick 3200 ρ) 97 = (CSt.tick (cR ρ)).c.asks.ns ∧ vI (zAc SCTick 3200 ρ) 98 = (CSt.tick (cR ρ)).c.asks.nr ∧ vS (zAc SCTick 3200 ρ) 99 = (CSt.tick (cR ρ)).c.asks.info := by
  obtain ⟨val, fn⟩ := ρ; obtain rfl : fn = fnC := hf;exact ⟨by kernel_rfl, by kernel_rfl, by kernel_rfl, by kernel_rfl, by kernel_rfl, by kernel_rfl, by kernel_rfl, by kernel_rfl, by kernel_rfl, by kernel_rfl, by kernel_rfl, by kernel_rfl, by kernel_rfl, by kernel_rfl, by kernel_rfl, by kernel_rfl, by kernel_rfl, by kernel_rfl, by kernel_rfl, by kernel_rfl, by kernel_rfl, by kernel_rfl, by kernel_rfl, by kernel_rfl, by kernel_rfl, by kernel_rfl, by kernel_rfl, by kernel_rfl, by kernel_rfl, by kernel_rfl, by kernel_rfl, by kernel_rfl⟩
 have K : ∀ {t : CSt} {b12 b14 b15 b17 b18 b20 b22 b23 b25 b27 b29 b30 b6 b8 b9 b0 b1 b10 n11 : Int} {b13 b19 b21 b26 b28 b7 b2 b3 b4 b5 : Bool} {b24 b31 b11 : List UInt8} {b16 : List (List Dat)}, (cR ρ).tick = t → p12 t = b12 → p13 t = b13 → p14 t = b14 → p15 t = b15 → p17 t = b17 → p18 t = b18 → p19 t = b19 → p20 t = b20 → p21 t = b21 → p22 t = b22 → p23 t = b23 → p24 t = b24 → p25 t = b25 → p26 t = b26 → p27 t = b27 → p28 t = b28 → p29 t = b29 → p30 t = b30 → p31 t = b31 → p6 t = b6 → p7 t = b7 → p8 t = b8 → p9 t = b9 → p0 t = b0 → p1 t = b1 → p2 t = b2 → p3 t = b3 → p4 t = b4 → p5 t = b5 → p10 t = b10 → zDL (p11 t) = n11 → p11 t = b11 → p16 t = b16 → vI (zAc SCTick 3200 ρ) 80 = b12 ∧ vB (zAc SCTick 3200 ρ) 81 = b13 ∧ vI (zAc SCTick 3200 ρ) 82 = b14 ∧ vI (zAc SCTick 3200 ρ) 83 = b15 ∧ vI (zAc SCTick 3200 ρ) 85 = b17 ∧ vI (zAc SCTick 3200 ρ) 86 = b18 ∧ vB (zAc SCTick 3200 ρ) 87 = b19 ∧ vI (zAc SCTick 3200 ρ) 88 = b20 ∧ vB (zAc SCTick 3200 ρ) 89 = b21 ∧ vI (zAc SCTick 3200 ρ) 90 = b22 ∧ vI (zAc SCTick 3200 ρ) 91 = b23 ∧ vS (zAc SCTick 3200 ρ) 92 = b24 ∧ vI (zAc SCTick 3200 ρ) 93 = b25 ∧ vB (zAc SCTick 3200 ρ) 94 = b26 ∧ vI (zAc SCTick 3200 ρ) 95 = b27 ∧ vB (zAc SCTick 3200 ρ) 96 = b28 ∧ vI (zAc SCTick 3200 ρ) 97 = b29 ∧ vI (zAc SCTick 3200 ρ) 98 = b30 ∧ vS (zAc SCTick 3200 ρ) 99 = b31 ∧ vI (zAc SCTick 3200 ρ) 74 = b6 ∧ vB (zAc SCTick 3200 ρ) 75 = b7 ∧ vI (zAc SCTick 3200 ρ) 76 = b8 ∧ vI (zAc SCTick 3200 ρ) 77 = b9 ∧ vI (zAc SCTick 3200 ρ) 68 = b0 ∧ vI (zAc SCTick 3200 ρ) 69 = b1 ∧ vB (zAc SCTick 3200 ρ) 70 = b2 ∧ vB (zAc SCTick 3200 ρ) 71 = b3 ∧ vB (zAc SCTick 3200 ρ) 72 = b4 ∧ vB (zAc SCTick 3200 ρ) 73 = b5 ∧ vI (zAc SCTick 3200 ρ) 78 = b10 ∧ zDL (vS (zAc SCTick 3200 ρ) 79) = n11 ∧ vI (zAc SCTick 3200 ρ) 78 = b10 ∧ vS (zAc SCTick 3200 ρ) 79 = b11 ∧ vL (zAc SCTick 3200 ρ) 84 = b16 ∧ True := by
  intro t b12 b14 b15 b17 b18 b20 b22 b23 b25 b27 b29 b30 b6 b8 b9 b0 b1 b10 n11 b13 b19 b21 b26 b28 b7 b2 b3 b4 b5 b24 b31 b11 b16 hw g0 g1 g2 g3 g4 g5 g6 g7 g8 g9 g10 g11 g12 g13 g14 g15 g16 g17 g18 g19 g20 g21 g22 g23 g24 g25 g26 g27 g28 g29 g30 g31 g32;exact ⟨z3 (f := p12) e12 hw g0, z3 (f := p13) e13 hw g1, z3 (f := p14) e14 hw g2, z3 (f := p15) e15 hw g3, z3 (f := p17) e17 hw g4, z3 (f := p18) e18 hw g5, z3 (f := p19) e19 hw g6, z3 (f := p20) e20 hw g7, z3 (f := p21) e21 hw g8, z3 (f := p22) e22 hw g9, z3 (f := p23) e23 hw g10, z3 (f := p24) e24 hw g11, z3 (f := p25) e25 hw g12, z3 (f := p26) e26 hw g13, z3 (f := p27) e27 hw g14, z3 (f := p28) e28 hw g15, z3 (f := p29) e29 hw g16, z3 (f := p30) e30 hw g17, z3 (f := p31) e31 hw g18, z3 (f := p6) e6 hw g19, z3 (f := p7) e7 hw g20, z3 (f := p8) e8 hw g21, z3 (f := p9) e9 hw g22, z3 (f := p0) e0 hw g23, z3 (f := p1) e1 hw g24, z3 (f := p2) e2 hw g25, z3 (f := p3) e3 hw g26, z3 (f := p4) e4 hw g27, z3 (f := p5) e5 hw g28, z3 (f := p10) e10 hw g29, (congrArg zDL (e11.trans (congrArg p11 hw))).trans g30, z3 (f := p10) e10 hw g29, z3 (f := p11) e11 hw g31, z3 (f := p16) e16 hw g32, trivial⟩
 obtain ⟨a0, a1, a2, a3, a4, a5, a6, a7, a8, a9, a10, a11, a13, a14, a15, a16, a17, a18, a19, a21, a22, a23, a24, a25, a26, a27, a28, a29, a30, a31, a32, a33, a34, a35, a36, a37, a38, a39, a40, a41, a42, a43, a44, a45, a46, a47, a48, a49, a50, a51, a52, a53, a54, a55, a56, a57, a58, a59⟩ : tI ρ (.app 832 zEZ) = ((zFu ρ).setWant ((ρ.val 29).asI == 0)).left ∧ tI ρ (.app 832 zEW) = ((zFu ρ).setWant false).left ∧ tB ρ (.app 833 zEZ) = ((zFu ρ).setWant ((ρ.val 29).asI == 0)).wants ∧ tB ρ (.app 833 zEW) = ((zFu ρ).setWant false).wants ∧ tB ρ (.app 834 zEZ) = true ∧ tB ρ (.app 834 zEW) = true ∧ tB ρ (.app 899 zAy) = ((aR4 ρ).tick).1.failed ∧ tI ρ (.app 900 zAy) = ((aR4 ρ).tick).2.tries ∧ tI ρ (.app 901 zAy) = ((aR4 ρ).tick).2.left ∧ tB ρ (.app 902 zAy) = ((aR4 ρ).tick).2.asks ∧ tB ρ (.app 903 zAy) = ((aR4 ρ).tick).2.failed ∧ tB ρ (.app 904 zAy) = ((aR4 ρ).tick).2.poll ∧ (@Tm.den ρ (.app 2304 (tp [(vt 0), (vt 1), (vt 2), (vt 3)]))).asI = (lR ρ).due.1.kind ∧ (@Tm.den ρ (.app 2305 (tp [(vt 0), (vt 1), (vt 2), (vt 3)]))).asB = (lR ρ).due.1.cmd ∧ (@Tm.den ρ (.app 2306 (tp [(vt 0), (vt 1), (vt 2), (vt 3)]))).asB = (lR ρ).due.1.pf ∧ (@Tm.den ρ (.app 2307 (tp [(vt 0), (vt 1), (vt 2), (vt 3)]))).asI = (lR ρ).due.1.timer ∧ (@Tm.den ρ (.app 2308 (tp [(vt 0), (vt 1), (vt 2), (vt 3)]))).asI = (lR ρ).due.1.fact ∧ (@Tm.den ρ (.app 2309 (tp [(vt 0), (vt 1), (vt 2), (vt 3)]))).asI = (lR ρ).due.2.st ∧ (@Tm.den ρ (.app 2310 (tp [(vt 0), (vt 1), (vt 2), (vt 3)]))).asI = (lR ρ).due.2.tries ∧ tI ρ (.app 2496 zC0) = ((zBm ρ).l.fin (ρ.val 44).asI).st ∧ tI ρ (.app 2496 zCu) = ((lR ρ).fin (ρ.val 44).asI).st ∧ tB ρ (.app 2497 zC0) = ((zBm ρ).l.fin (ρ.val 44).asI).listens ∧ tB ρ (.app 2497 zCu) = ((lR ρ).fin (ρ.val 44).asI).listens ∧ tI ρ (.app 2498 zC0) = ((zBm ρ).l.fin (ρ.val 44).asI).tries ∧ tI ρ (.app 2498 zCu) = ((lR ρ).fin (ρ.val 44).asI).tries ∧ tI ρ (.app 2499 zC0) = ((zBm ρ).l.fin (ρ.val 44).asI).most ∧ tI ρ (.app 2499 zCu) = ((lR ρ).fin (ρ.val 44).asI).most ∧ tI ρ (.app 2500 zC0) = (((zBm ρ).qf + ((zBm ρ).qt.length : Int)).tmod (ρ.val 36).asI) ∧ tI ρ (.app 2500 zCu) = (((ρ.val 34).asI + (zWX ρ)).tmod (ρ.val 36).asI) ∧ tB ρ (.app 2501 zC0) = true ∧ tB ρ (.app 2501 zCu) = true ∧ tI ρ (.app 2560 zAp) = (zBm ρ).l.st ∧ tB ρ (.app 2561 zAp) = (zBm ρ).l.listens ∧ tI ρ (.app 2562 zAp) = (zBm ρ).l.tries ∧ tI ρ (.app 2563 zAp) = (zBm ρ).l.most ∧ tI ρ (.app 2564 zAp) = (zBm ρ).qf ∧ tS ρ (.app 2565 zAp) = (zBm ρ).qt ∧ tI ρ (.app 2566 zAp) = (zBm ρ).st ∧ tB ρ (.app 2567 zAp) = (zBm ρ).asked ∧ tI ρ (.app 2568 zAp) = (zBm ρ).po ∧ tI ρ (.app 2569 zAp) = (zBm ρ).pl ∧ tL ρ (.app 2570 zAp) = (zBm ρ).pL ∧ tI ρ (.app 2571 zAp) = (zBm ρ).left ∧ tI ρ (.app 2572 zAp) = (zBm ρ).says.d ∧ tB ρ (.app 2573 zAp) = (zBm ρ).says.c ∧ tI ρ (.app 2574 zAp) = (zBm ρ).says.k ∧ tB ρ (.app 2575 zAp) = (zBm ρ).says.pf ∧ tI ρ (.app 2576 zAp) = (zBm ρ).says.ns ∧ tI ρ (.app 2577 zAp) = (zBm ρ).says.nr ∧ tS ρ (.app 2578 zAp) = (zBm ρ).says.info ∧ tI ρ (.app 2579 zAp) = (zBm ρ).asks.d ∧ tB ρ (.app 2580 zAp) = (zBm ρ).asks.c ∧ tI ρ (.app 2581 zAp) = (zBm ρ).asks.k ∧ tB ρ (.app 2582 zAp) = (zBm ρ).asks.pf ∧ tI ρ (.app 2583 zAp) = (zBm ρ).asks.ns ∧ tI ρ (.app 2584 zAp) = (zBm ρ).asks.nr ∧ tS ρ (.app 2585 zAp) = (zBm ρ).asks.info ∧ tB ρ (.app 2586 zAp) = true := by
  obtain ⟨val, fn⟩ := ρ; obtain rfl : fn = fnC := hf;exact ⟨by kernel_rfl, by kernel_rfl, by kernel_rfl, by kernel_rfl, by kernel_rfl, by kernel_rfl, by kernel_rfl, by kernel_rfl, by kernel_rfl, by kernel_rfl, by kernel_rfl, by kernel_rfl, by kernel_rfl, by kernel_rfl, by kernel_rfl, by kernel_rfl, by kernel_rfl, by kernel_rfl, by kernel_rfl, by kernel_rfl, by kernel_rfl, by kernel_rfl, by kernel_rfl, by kernel_rfl, by kernel_rfl, by kernel_rfl, by kernel_rfl, by kernel_rfl, by kernel_rfl, by kernel_rfl, by kernel_rfl, by kernel_rfl, by kernel_rfl, by kernel_rfl, by kernel_rfl, by kernel_rfl, by kernel_rfl, by kernel_rfl, by kernel_rfl, by kernel_rfl, by kernel_rfl, by kernel_rfl, by kernel_rfl, by kernel_rfl, by kernel_rfl, by kernel_rfl, by kernel_rfl, by kernel_rfl, by kernel_rfl, by kernel_rfl, by kernel_rfl, by kernel_rfl, by kernel_rfl, by kernel_rfl, by kernel_rfl, by kernel_rfl, by kernel_rfl, by kernel_rfl⟩
 obtain ⟨o1, o2, o3, o4, o5, o6⟩ := hok;have b2311 : (@Tm.den ρ (.app 2311 (tp [(vt 0), (vt 1), (vt 2), (vt 3)]))).asB = true := by
  have : (@Tm.den ρ (.app 2311 (tp [(vt 0), (vt 1), (vt 2), (vt 3)]))).asB = decide (0 ≤ (ρ.val 2).asI ∧ (ρ.val 2).asI ≤ 1000) := by obtain ⟨val, fn⟩ := ρ; obtain rfl : fn = fnC := hf; kernel_rfl
  rw [this];exact decide_eq_true ⟨o5, o6⟩
 have b905 : tB ρ (.app 905 zAy) = true := by
  have : tB ρ (.app 905 zAy) = decide (0 ≤ (ρ.val 9).asI ∧ (ρ.val 9).asI ≤ 1000 ∧ 0 ≤ (ρ.val 10).asI ∧ (ρ.val 10).asI ≤ 1000) := by obtain ⟨val, fn⟩ := ρ; obtain rfl : fn = fnC := hf; kernel_rfl
  rw [this];exact decide_eq_true ⟨o1, o2, o3, o4⟩
 unfold xG5;refine zAb (fun h0 => ?_) (fun h0 => ?_)
 ·have g53 : (0 : Int) < (ρ.val 53).asI := by rw [zAT] at h0; exact h0.1
  refine zAb (fun h1 => ?_) (fun h1 => ?_)
  ·have gw : IntKind.i64.wrap ((ρ.val 53).asI - 1) = 0 := by rw [zAU] at h1; exact h1
   refine zAb (fun _ => ?_) (fun h2 => absurd (b2311.symm.trans h2) (by decide))
   refine zAb (fun _ => ?_) (fun h2 => absurd (a59.symm.trans h2) (by decide))
   refine zAb (fun h2 => ?_) (fun h2 => ?_)
   ·have gs : (zBm ρ).st = 3 := by rw [zAU] at h2; rw [← a39]; exact h2
    refine zAb (fun _ => ?_) (fun h3 => absurd (b905.symm.trans h3) (by decide))
    refine zAb (fun h3 => ?_) (fun h3 => ?_)
    ·have gf : ((aR4 ρ).tick).1.failed = true := by rw [← a6]; exact h3
     refine zAb (fun _ => ?_) (fun h4 => absurd (a31.symm.trans h4) (by decide))
     have hw : (cR ρ).tick = ({ ((zTq ρ).fail) with a := (zFu ρ) } : CSt) := zCC (c := cR ρ) (X := ((zTq ρ).fail)) (zOU (zQl g53 gw) gs gf) (zDe (show ¬ (6 : Int) = 3 by decide))
     exact zAk (K hw rfl a40.symm rfl rfl rfl a45.symm a46.symm a47.symm a48.symm a49.symm a50.symm a51.symm rfl rfl rfl rfl rfl rfl rfl a21.symm a23.symm a25.symm a27.symm a7.symm a8.symm a9.symm rfl a10.symm a11.symm a29.symm (congrArg zDL (rfl : _ = ([] : List UInt8))) rfl rfl)
    ·have gf : ((aR4 ρ).tick).1.failed = false := by rw [← a6]; exact h3
     refine zAb (fun h4 => ?_) (fun h4 => ?_)
     ·have gl : (0 : Int) < ((zBm ρ).qt.length : Int) := by rw [zAT] at h4; rw [← a38]; exact h4.1
      refine zAb (fun _ => ?_) (fun h5 => absurd (a4.symm.trans h5) (by decide))
      have hw : (cR ρ).tick = ({ (zTq ρ) with a := (xDB ρ) } : CSt) := zCC (c := cR ρ) (X := (zTq ρ)) (zHb (zQl g53 gw) gs gf) ((zD5 gs gl).trans (ASt.setWant_eq _ _))
      exact zAk (K hw a39.symm a40.symm a41.symm a42.symm a44.symm a45.symm a46.symm a47.symm a48.symm a49.symm a50.symm a51.symm a52.symm a53.symm a54.symm a55.symm a56.symm a57.symm a58.symm a33.symm a34.symm a35.symm a36.symm a7.symm a0.symm a9.symm a2.symm a10.symm a11.symm a37.symm (congrArg zDL a38.symm) a38.symm a43.symm)
     ·have gl : ((zBm ρ).qt.length : Int) ≤ 0 := by rw [zAO] at h4; rw [← a38]; exact h4.1
      refine zAb (fun _ => ?_) (fun h5 => absurd (a5.symm.trans h5) (by decide))
      have hw : (cR ρ).tick = ({ (zTq ρ) with a := (xDA ρ) } : CSt) := zCC (c := cR ρ) (X := (zTq ρ)) (zHb (zQl g53 gw) gs gf) ((zD6 gs gl).trans (ASt.setWant_eq _ _))
      exact zAk (K hw a39.symm a40.symm a41.symm a42.symm a44.symm a45.symm a46.symm a47.symm a48.symm a49.symm a50.symm a51.symm a52.symm a53.symm a54.symm a55.symm a56.symm a57.symm a58.symm a33.symm a34.symm a35.symm a36.symm a7.symm a1.symm a9.symm a3.symm a10.symm a11.symm a37.symm (congrArg zDL a38.symm) a38.symm a43.symm)
   ·have gs : ¬ (zBm ρ).st = 3 := by rw [zAQ] at h2; rw [← a39]; exact h2
    have hw : (cR ρ).tick = ({ ({ cR ρ with c := ((zAd ρ).mv (zBm ρ)) } : CSt) with a := (aR4 ρ) } : CSt) := zCC (c := cR ρ) (X := ({ cR ρ with c := ((zAd ρ).mv (zBm ρ)) } : CSt)) (zOT (zQl g53 gw) gs) (zDe gs)
    exact zAk (K hw a39.symm a40.symm a41.symm a42.symm a44.symm a45.symm a46.symm a47.symm a48.symm a49.symm a50.symm a51.symm a52.symm a53.symm a54.symm a55.symm a56.symm a57.symm a58.symm a33.symm a34.symm a35.symm a36.symm rfl rfl rfl rfl rfl rfl a37.symm (congrArg zDL a38.symm) a38.symm a43.symm)
  ·have gw : ¬ IntKind.i64.wrap ((ρ.val 53).asI - 1) = 0 := by rw [zAQ] at h1; exact h1
   refine zAb (fun h2 => ?_) (fun h2 => ?_)
   ·have gs : (ρ.val 48).asI = 3 := by rw [zAU] at h2; exact h2
    refine zAb (fun _ => ?_) (fun h3 => absurd (b905.symm.trans h3) (by decide))
    refine zAb (fun h3 => ?_) (fun h3 => ?_)
    ·have gf : ((aR4 ρ).tick).1.failed = true := by rw [← a6]; exact h3
     refine zAb (fun _ => ?_) (fun h4 => absurd (a32.symm.trans h4) (by decide))
     have hw : (cR ρ).tick = ({ ((zTo ρ).fail) with a := (zFu ρ) } : CSt) := zCC (c := cR ρ) (X := ((zTo ρ).fail)) (zOU (zQk g53 gw) gs gf) (zDe (show ¬ (6 : Int) = 3 by decide))
     exact zAk (K hw rfl rfl rfl rfl rfl rfl rfl rfl rfl rfl rfl rfl rfl rfl rfl rfl rfl rfl rfl a22.symm a24.symm a26.symm a28.symm a7.symm a8.symm a9.symm rfl a10.symm a11.symm a30.symm (congrArg zDL (rfl : _ = ([] : List UInt8))) rfl rfl)
    ·have gf : ((aR4 ρ).tick).1.failed = false := by rw [← a6]; exact h3
     refine zAb (fun h4 => ?_) (fun h4 => ?_)
     ·have gl : (0 : Int) < (zWX ρ) := by rw [zAT] at h4; exact h4.1
      refine zAb (fun _ => ?_) (fun h5 => absurd (a4.symm.trans h5) (by decide))
      have hw : (cR ρ).tick = ({ (zTo ρ) with a := (xDB ρ) } : CSt) := zCC (c := cR ρ) (X := (zTo ρ)) (zHb (zQk g53 gw) gs gf) ((zD5 gs gl).trans (ASt.setWant_eq _ _))
      exact zAk (K hw rfl rfl rfl rfl rfl rfl rfl rfl rfl rfl rfl rfl rfl rfl rfl rfl rfl rfl rfl rfl rfl rfl rfl a7.symm a0.symm a9.symm a2.symm a10.symm a11.symm rfl (congrArg zDL rfl) rfl rfl)
     ·have gl : (zWX ρ) ≤ 0 := by rw [zAO] at h4; exact h4.1
      refine zAb (fun _ => ?_) (fun h5 => absurd (a5.symm.trans h5) (by decide))
      have hw : (cR ρ).tick = ({ (zTo ρ) with a := (xDA ρ) } : CSt) := zCC (c := cR ρ) (X := (zTo ρ)) (zHb (zQk g53 gw) gs gf) ((zD6 gs gl).trans (ASt.setWant_eq _ _))
      exact zAk (K hw rfl rfl rfl rfl rfl rfl rfl rfl rfl rfl rfl rfl rfl rfl rfl rfl rfl rfl rfl rfl rfl rfl rfl a7.symm a1.symm a9.symm a3.symm a10.symm a11.symm rfl (congrArg zDL rfl) rfl rfl)
   ·have gs : ¬(ρ.val 48).asI = 3 := by rw [zAQ] at h2; exact h2
    have hw : (cR ρ).tick = ({ (xDC ρ) with a := (aR4 ρ) } : CSt) := zCC (c := cR ρ) (X := (xDC ρ)) (zOT (zQk g53 gw) gs) (zDe gs)
    exact zAk (K hw rfl rfl rfl rfl rfl rfl rfl rfl rfl rfl rfl rfl rfl rfl rfl rfl rfl rfl rfl rfl rfl rfl rfl rfl rfl rfl rfl rfl rfl rfl (congrArg zDL rfl) rfl rfl)
 ·have g53 : (ρ.val 53).asI ≤ 0 := by rw [zAO] at h0; exact h0.1
  refine zAb (fun h1 => ?_) (fun h1 => ?_)
  ·have gs : (ρ.val 48).asI = 3 := by rw [zAU] at h1; exact h1
   refine zAb (fun _ => ?_) (fun h2 => absurd (b905.symm.trans h2) (by decide))
   refine zAb (fun h2 => ?_) (fun h2 => ?_)
   ·have gf : ((aR4 ρ).tick).1.failed = true := by rw [← a6]; exact h2
    refine zAb (fun _ => ?_) (fun h3 => absurd (a32.symm.trans h3) (by decide))
    have hw : (cR ρ).tick = ({ ((zTp ρ).fail) with a := (zFu ρ) } : CSt) := zCC (c := cR ρ) (X := ((zTp ρ).fail)) (zOU (zQj g53) gs gf) (zDe (show ¬ (6 : Int) = 3 by decide))
    exact zAk (K hw rfl rfl rfl rfl rfl rfl rfl rfl rfl rfl rfl rfl rfl rfl rfl rfl rfl rfl rfl a22.symm a24.symm a26.symm a28.symm a7.symm a8.symm a9.symm rfl a10.symm a11.symm a30.symm (congrArg zDL (rfl : _ = ([] : List UInt8))) rfl rfl)
   ·have gf : ((aR4 ρ).tick).1.failed = false := by rw [← a6]; exact h2
    refine zAb (fun h3 => ?_) (fun h3 => ?_)
    ·have gl : (0 : Int) < (zWX ρ) := by rw [zAT] at h3; exact h3.1
     refine zAb (fun _ => ?_) (fun h4 => absurd (a4.symm.trans h4) (by decide))
     have hw : (cR ρ).tick = ({ (zTp ρ) with a := (xDB ρ) } : CSt) := zCC (c := cR ρ) (X := (zTp ρ)) (zHb (zQj g53) gs gf) ((zD5 gs gl).trans (ASt.setWant_eq _ _))
     exact zAk (K hw rfl rfl rfl rfl rfl rfl rfl rfl rfl rfl rfl rfl rfl rfl rfl rfl rfl rfl rfl rfl rfl rfl rfl a7.symm a0.symm a9.symm a2.symm a10.symm a11.symm rfl (congrArg zDL rfl) rfl rfl)
    ·have gl : (zWX ρ) ≤ 0 := by rw [zAO] at h3; exact h3.1
     refine zAb (fun _ => ?_) (fun h4 => absurd (a5.symm.trans h4) (by decide))
     have hw : (cR ρ).tick = ({ (zTp ρ) with a := (xDA ρ) } : CSt) := zCC (c := cR ρ) (X := (zTp ρ)) (zHb (zQj g53) gs gf) ((zD6 gs gl).trans (ASt.setWant_eq _ _))
     exact zAk (K hw rfl rfl rfl rfl rfl rfl rfl rfl rfl rfl rfl rfl rfl rfl rfl rfl rfl rfl rfl rfl rfl rfl rfl a7.symm a1.symm a9.symm a3.symm a10.symm a11.symm rfl (congrArg zDL rfl) rfl rfl)
  ·have gs : ¬(ρ.val 48).asI = 3 := by rw [zAQ] at h1; exact h1
   have hw : (cR ρ).tick = ({ ({ cR ρ with c := (zAd ρ) } : CSt) with a := (aR4 ρ) } : CSt) := zCC (c := cR ρ) (X := ({ cR ρ with c := (zAd ρ) } : CSt)) (zOT (zQj g53) gs) (zDe gs)
   exact zAk (K hw rfl rfl rfl rfl rfl rfl rfl rfl rfl rfl rfl rfl rfl rfl rfl rfl rfl rfl rfl rfl rfl rfl rfl rfl rfl rfl rfl rfl rfl rfl (congrArg zDL rfl) rfl rfl)
end
end Go.Proofs.YtenkabjkgngcdaaGreat.Ab
