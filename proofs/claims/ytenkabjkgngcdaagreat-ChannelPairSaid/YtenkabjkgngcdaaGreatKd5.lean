import Derived.Test.YtenkabjkgngcdaaGreatKd4
import Derived.Test.YtenkabjkgngcdaaGreatKb6
set_option linter.unusedVariables false
set_option linter.unusedSimpArgs false
set_option linter.unusedSectionVars false
namespace Go.Proofs.YtenkabjkgngcdaaGreat.Ab
open Go
noncomputable section
abbrev nx0 (r : Frm × Bool × CSt) : Int :=
 r.1.d
abbrev nx1 (r : Frm × Bool × CSt) : Bool :=
 r.1.c
abbrev nx2 (r : Frm × Bool × CSt) : Int :=
 r.1.k
abbrev nx3 (r : Frm × Bool × CSt) : Bool :=
 r.1.pf
abbrev nx4 (r : Frm × Bool × CSt) : Int :=
 r.1.ns
abbrev nx5 (r : Frm × Bool × CSt) : Int :=
 r.1.nr
abbrev nx6 (r : Frm × Bool × CSt) : List UInt8 :=
 r.1.info
abbrev nx7 (r : Frm × Bool × CSt) : Bool :=
 r.2.1
abbrev nx8 (r : Frm × Bool × CSt) : Int :=
 r.2.2.a.out
abbrev nx9 (r : Frm × Bool × CSt) : Int :=
 r.2.2.a.left
abbrev xJx (r : Frm × Bool × CSt) : Bool :=
 r.2.2.a.wants
abbrev xJw (r : Frm × Bool × CSt) : Int :=
 r.2.2.a.off
abbrev xJv (r : Frm × Bool × CSt) : Int :=
 r.2.2.a.len
abbrev xJu (r : Frm × Bool × CSt) : List (List Dat) :=
 r.2.2.a.L
abbrev xJt (r : Frm × Bool × CSt) : Int :=
 r.2.2.a.high
abbrev xJs (r : Frm × Bool × CSt) : Bool :=
 r.2.2.a.due
abbrev xJr (r : Frm × Bool × CSt) : Bool :=
 r.2.2.a.final
abbrev xJq (r : Frm × Bool × CSt) : Bool :=
 r.2.2.a.reject
abbrev xJp (r : Frm × Bool × CSt) : Bool :=
 r.2.2.a.poll
abbrev xJo (r : Frm × Bool × CSt) : Int :=
 r.2.2.pn
abbrev xJn (r : Frm × Bool × CSt) : Int :=
 r.2.2.owe
abbrev xIa (r : Frm × Bool × CSt) : Int :=
 r.2.2.c.qf
abbrev xHx (r : Frm × Bool × CSt) : List UInt8 :=
 r.2.2.c.qt
abbrev xJm (r : Frm × Bool × CSt) : Int :=
 r.2.2.c.po
abbrev xJl (r : Frm × Bool × CSt) : Int :=
 r.2.2.c.pl
abbrev xJk (r : Frm × Bool × CSt) : List (List Dat) :=
 r.2.2.c.pL
abbrev xJj (r : Frm × Bool × CSt) : Int :=
 r.2.2.c.says.d
abbrev xJi (r : Frm × Bool × CSt) : Bool :=
 r.2.2.c.says.c
abbrev xJh (r : Frm × Bool × CSt) : Int :=
 r.2.2.c.says.k
abbrev xJg (r : Frm × Bool × CSt) : Bool :=
 r.2.2.c.says.pf
abbrev xJf (r : Frm × Bool × CSt) : Int :=
 r.2.2.c.says.ns
abbrev xJe (r : Frm × Bool × CSt) : Int :=
 r.2.2.c.says.nr
abbrev xJd (r : Frm × Bool × CSt) : List UInt8 :=
 r.2.2.c.says.info
abbrev xJc (r : Frm × Bool × CSt) : Int :=
 r.2.2.c.asks.d
abbrev xJb (r : Frm × Bool × CSt) : Bool :=
 r.2.2.c.asks.c
abbrev xJa (r : Frm × Bool × CSt) : Int :=
 r.2.2.c.asks.k
abbrev xIZ (r : Frm × Bool × CSt) : Bool :=
 r.2.2.c.asks.pf
abbrev xIY (r : Frm × Bool × CSt) : Int :=
 r.2.2.c.asks.ns
abbrev xIX (r : Frm × Bool × CSt) : Int :=
 r.2.2.c.asks.nr
abbrev xIW (r : Frm × Bool × CSt) : List UInt8 :=
 r.2.2.c.asks.info
theorem zST {c : CSt} {may : Bool} (h : c.has may = false) : c.nextR may = (Frm.none, false, c) := by
 unfold CSt.nextR; rw [if_pos h]
theorem zHj {c : CSt} {may : Bool} {r : ASt} (h : c.has may = true) (k : ¬ c.c.says.k = 0) (hw : zA2 c.a c.c.st c.c.qt c.pn = r) : c.nextR may = (c.c.says, true, { ({ c with c := { c.c with says := Frm.none } } : CSt) with a := r }) := by
 unfold CSt.nextR; rw [if_neg (by rw [h]; simp), if_pos k, ← hw]; rfl
theorem zHu {c : CSt} {may : Bool} {r : ASt} (h : c.has may = true) (k : c.c.says.k = 0) (k2 : ¬ c.c.asks.k = 0) (hw : zA2 c.a c.c.st c.c.qt c.pn = r) : c.nextR may = (c.c.asks, true, { ({ c with c := { c.c with asks := Frm.none } } : CSt) with a := r }) := by
 unfold CSt.nextR; rw [if_neg (by rw [h]; simp), if_neg (fun g => g k), if_pos k2, ← hw]; rfl
theorem zHt {c : CSt} {may : Bool} {r : ASt} (h : c.has may = true) (k : c.c.says.k = 0) (k2 : c.c.asks.k = 0) (hw : zA2 ((c.fill may).a.mvX (c.fill may).a.next.2.2) c.c.st (c.fill may).c.qt (c.fill may).pn = r) : c.nextR may = ({ (c.fill may).a.next.1 with d := c.c.dlci }, true, { c.fill may with a := r }) := by
 unfold CSt.nextR; rw [if_neg (by rw [h]; simp), if_neg (fun g => g k), if_neg (fun g => g k2), ← hw]; rfl
abbrev zM6 : Tm :=
 (tp [y4, y5, y6, y7, y8, y9, y10, y11, y12, y13, y14, y15, y16, y17, y18, y19, y20, y21, y22, y23, y24, y25, y26, y27, y29, y31, y33, y35, y45, y46, y48, y51, y56, y63, y68])
abbrev zBv : Tm := (.ci 0)
abbrev zEs : Tm :=
 (tp [y4, y5, y6, y7, y8, y9, y10, y11, y12, y13, y14, y15, y16, y17, y18, y19, y20, y21, y22, y23, y24, y25, y26, y27, (.ib .eql .i64 y29 zBv)])
abbrev zEB : Tm := (.cb false)
abbrev zEr : Tm :=
 (tp [y4, y5, y6, y7, y8, y9, y10, y11, y12, y13, y14, y15, y16, y17, y18, y19, y20, y21, y22, y23, y24, y25, y26, y27, zEB])
abbrev zAE : Tm :=
 (tp [y4, y5, y6, y7, y8, y9, y10, y11, y12, y13, y14, y15, y16, y17, y18, y19, y20, y21, y22, y23, y24, y25, y26, y27, y29, y31, y33, y34, y35, y36, y41, y45, y46, y50, y51, y52, y68])
abbrev zSH : Tm := (.app 3265 zAE)
abbrev zSG : Tm := (.app 3266 zAE)
abbrev zSF : Tm := (.app 3267 zAE)
abbrev zA3 : Tm :=
 (tp [y4, y5, y6, y7, y8, y9, (.app 3264 zAE), y11, y12, y13, y14, y15, y16, y17, y18, y19, zSH, zSG, zSF, y23, y24, y25, y26, y27])
abbrev zNe : Tm := (.app 648 zA3)
abbrev zNd : Tm := (.app 650 zA3)
abbrev zNc : Tm := (.app 651 zA3)
abbrev zNb : Tm := (.app 652 zA3)
abbrev zNa : Tm := (.app 653 zA3)
abbrev zMZ : Tm := (.app 654 zA3)
abbrev zQQ : Tm := (.app 3268 zAE)
abbrev zH8 : Tm :=
 (tp [y4, y5, y6, y7, zNe, y9, (.app 649 zA3), y11, y12, y13, y14, y15, y16, y17, y18, y19, zSH, zSG, zSF, zNd, zNc, zNb, zNa, zMZ, (.ib .eql .i64 zQQ zBv)])
abbrev zH7 : Tm :=
 (tp [y4, y5, y6, y7, zNe, y9, (.app 649 zA3), y11, y12, y13, y14, y15, y16, y17, y18, y19, zSH, zSG, zSF, zNd, zNc, zNb, zNa, zMZ, zEB])
abbrev zIY : Sr × Tm × Tm := (.sI, y92, y50)
abbrev zIX : Sr × Tm × Tm := (.sI, y93, y51)
abbrev zIW : Sr × Tm × Tm := (.sI, y95, y54)
abbrev zIV : Sr × Tm × Tm := (.sB, y96, y55)
abbrev zIU : Sr × Tm × Tm := (.sI, y97, y56)
abbrev zIT : Sr × Tm × Tm := (.sB, y98, y57)
abbrev zIS : Sr × Tm × Tm := (.sI, y99, y58)
abbrev zJh : Sr × Tm × Tm := (.sI, zFV, y59)
abbrev zJg : Sr × Tm × Tm := (.sS, y101, y60)
abbrev zJf : Sr × Tm × Tm := (.sI, y102, y61)
abbrev zJe : Sr × Tm × Tm := (.sB, zMA, y62)
abbrev zJd : Sr × Tm × Tm := (.sI, y104, y63)
abbrev zJc : Sr × Tm × Tm := (.sB, zMB, y64)
abbrev zJb : Sr × Tm × Tm := (.sI, zKe, y65)
abbrev zJa : Sr × Tm × Tm := (.sI, zOK, y66)
abbrev zIZ : Sr × Tm × Tm := (.sS, zOP, y67)
abbrev zIC : Sr × Tm × Tm := (.sI, y77, y8)
abbrev zIR : Sr × Tm × Tm := (.sI, y80, y20)
abbrev zIQ : Sr × Tm × Tm := (.sI, y81, y21)
abbrev zIP : Sr × Tm × Tm := (.sI, y83, y23)
abbrev zIO : Sr × Tm × Tm := (.sB, y84, y24)
abbrev zIN : Sr × Tm × Tm := (.sB, y85, y25)
abbrev zIM : Sr × Tm × Tm := (.sB, y86, y26)
abbrev zIL : Sr × Tm × Tm := (.sB, y87, y27)
abbrev zIK : Sr × Tm × Tm := (.sL, y82, y22)
abbrev zIJ : Sr × Tm × Tm := (.sI, y88, y29)
abbrev zII : Sr × Tm × Tm := (.sI, y89, y33)
abbrev zGh : Sr × Tm × Tm := (.sI, y90, y34)
abbrev zPk : Sr × Tm × Tm := (.sI, (.len y91), (.len y35))
abbrev zIH : Sr × Tm × Tm := (.sS, y91, y35)
abbrev zIG : Sr × Tm × Tm := (.sL, y94, y52)
abbrev zUB : Tm := (.ib .eql .u8 y48 (.ci 3))
abbrev zLL : Sr × Tm × Tm := (.sB, y76, (.cb true))
abbrev zUz : Tm := (.app 3271 zAE)
abbrev zU5 : Sr × Tm × Tm := (.sB, y70, (.app 641 zA3))
abbrev zU4 : Sr × Tm × Tm := (.sI, y71, (.app 642 zA3))
abbrev zU3 : Sr × Tm × Tm := (.sB, y72, (.app 643 zA3))
abbrev zU2 : Sr × Tm × Tm := (.sI, y73, (.app 644 zA3))
abbrev zU1 : Sr × Tm × Tm := (.sI, y74, (.app 645 zA3))
abbrev zU0 : Sr × Tm × Tm := (.sS, y75, (.app 646 zA3))
abbrev zUA : Sr × Tm × Tm := (.sI, y92, (.app 3272 zAE))
abbrev zU9 : Sr × Tm × Tm := (.sI, y93, (.app 3273 zAE))
abbrev zU8 : Sr × Tm × Tm := (.sI, y89, (.app 3269 zAE))
abbrev zSI : Sr × Tm × Tm := (.sI, y90, (.app 3270 zAE))
abbrev zU7 : Sr × Tm × Tm := (.sI, (.len y91), (.len zUz))
abbrev zU6 : Sr × Tm × Tm := (.sL, y94, (.app 3274 zAE))
def xGE : (Tree (Option Eqs)) :=
 (.fork (.app 3393 zM6) (.fork (.not (.app 3392 zM6)) (.leaf (some [(.sI, y69, zBv), (.sB, y70, zEB), (.sI, y71, zBv), (.sB, y72, zEB), (.sI, y73, zBv), (.sI, y74, zBv), (.sS, y75, (.cs [])), (.sB, y76, zEB), zIY, zIX, zIW, zIV, zIU, zIT, zIS, zJh, zJg, zJf, zJe, zJd, zJc, zJb, zJa, zIZ, zIC, (.sI, y78, y10), (.sB, y79, y15),
 zIR, zIQ, zIP, zIO, zIN, zIM, zIL, zIK, zIJ, zII, zGh, zPk, zGh, zIH, zIG])) (.fork (.ib .neq .u8 y56 zBv) (.fork zUB (.fork (.ib .gtr .i64 (.len y35) zBv) (.fork (.app 834 zEs) (.leaf (some [(.sI, y69, y54), (.sB, y70, y55), (.sI, y71, y56), (.sB, y72, y57), (.sI, y73, y58), (.sI, y74, y59), (.sS, y75, y60), zLL, zIY, zIX, (.sI, y95, zBv),
 (.sB, y96, zEB), (.sI, y97, zBv), (.sB, y98, zEB), (.sI, y99, zBv), (.sI, zFV, zBv), (.sS, y101, (.cs [])), zJf, zJe, zJd, zJc, zJb, zJa, zIZ, zIC, (.sI, y78, (.app 832 zEs)), (.sB, y79, (.app 833 zEs)), zIR, zIQ, zIP, zIO, zIN, zIM, zIL, zIK, zIJ, zII, zGh, zPk, zGh, zIH, zIG])) .fail) (.fork (.app 834 zEr) (.leaf
 (some [(.sI, y69, y54), (.sB, y70, y55), (.sI, y71, y56), (.sB, y72, y57), (.sI, y73, y58), (.sI, y74, y59), (.sS, y75, y60), zLL, zIY, zIX, (.sI, y95, zBv), (.sB, y96, zEB), (.sI, y97, zBv), (.sB, y98, zEB), (.sI, y99, zBv), (.sI, zFV, zBv), (.sS, y101, (.cs [])), zJf, zJe, zJd, zJc, zJb, zJa, zIZ, zIC, (.sI, y78, (.app 832 zEr)), (.sB, y79, (.app 833
 zEr)), zIR, zIQ, zIP, zIO, zIN, zIM, zIL, zIK, zIJ, zII, zGh, zPk, zGh, zIH, zIG])) .fail)) (.leaf (some [(.sI, y69, y54), (.sB, y70, y55), (.sI, y71, y56), (.sB, y72, y57), (.sI, y73, y58), (.sI, y74, y59), (.sS, y75, y60), zLL, zIY, zIX, (.sI, y95, zBv), (.sB, y96, zEB), (.sI, y97, zBv), (.sB, y98, zEB), (.sI, y99, zBv), (.sI, zFV,
 zBv), (.sS, y101, (.cs [])), zJf, zJe, zJd, zJc, zJb, zJa, zIZ, zIC, (.sI, y78, y10), (.sB, y79, y15), zIR, zIQ, zIP, zIO, zIN, zIM, zIL, zIK, zIJ, zII, zGh, zPk, zGh, zIH, zIG]))) (.fork (.ib .neq .u8 y63 zBv) (.fork zUB (.fork (.ib .gtr .i64 (.len y35) zBv) (.fork (.app 834 zEs) (.leaf (some [(.sI, y69, y61), (.sB, y70,
 y62), (.sI, y71, y63), (.sB, y72, y64), (.sI, y73, y65), (.sI, y74, y66), (.sS, y75, y67), zLL, zIY, zIX, zIW, zIV, zIU, zIT, zIS, zJh, zJg, (.sI, y102, zBv), (.sB, zMA, zEB), (.sI, y104, zBv), (.sB, zMB, zEB), (.sI, zKe, zBv), (.sI, zOK, zBv), (.sS, zOP, (.cs [])), zIC, (.sI, y78, (.app 832 zEs)), (.sB, y79, (.app 833 zEs)), zIR, zIQ,
 zIP, zIO, zIN, zIM, zIL, zIK, zIJ, zII, zGh, zPk, zGh, zIH, zIG])) .fail) (.fork (.app 834 zEr) (.leaf (some [(.sI, y69, y61), (.sB, y70, y62), (.sI, y71, y63), (.sB, y72, y64), (.sI, y73, y65), (.sI, y74, y66), (.sS, y75, y67), zLL, zIY, zIX, zIW, zIV, zIU, zIT, zIS, zJh, zJg, (.sI, y102, zBv), (.sB, zMA, zEB), (.sI, y104, zBv),
 (.sB, zMB, zEB), (.sI, zKe, zBv), (.sI, zOK, zBv), (.sS, zOP, (.cs [])), zIC, (.sI, y78, (.app 832 zEr)), (.sB, y79, (.app 833 zEr)), zIR, zIQ, zIP, zIO, zIN, zIM, zIL, zIK, zIJ, zII, zGh, zPk, zGh, zIH, zIG])) .fail)) (.leaf (some [(.sI, y69, y61), (.sB, y70, y62), (.sI, y71, y63), (.sB, y72, y64), (.sI, y73, y65), (.sI, y74, y66), (.sS,
 y75, y67), zLL, zIY, zIX, zIW, zIV, zIU, zIT, zIS, zJh, zJg, (.sI, y102, zBv), (.sB, zMA, zEB), (.sI, y104, zBv), (.sB, zMB, zEB), (.sI, zKe, zBv), (.sI, zOK, zBv), (.sS, zOP, (.cs [])), zIC, (.sI, y78, y10), (.sB, y79, y15), zIR, zIQ, zIP, zIO, zIN, zIM, zIL, zIK, zIJ, zII, zGh, zPk, zGh, zIH, zIG]))) (.fork
 (.app 3275 zAE) (.fork (.app 655 zA3) (.fork zUB (.fork (.ib .gtr .i64 (.len zUz) zBv) (.fork (.app 834 zH8) (.leaf (some [(.sI, y69, y47), zU5, zU4, zU3, zU2, zU1, zU0, zLL, zUA, zU9, zIW, zIV, zIU, zIT, zIS, zJh, zJg, zJf, zJe, zJd, zJc, zJb, zJa, zIZ, (.sI, y77, zNe), (.sI, y78, (.app 832 zH8)), (.sB, y79,
 (.app 833 zH8)), (.sI, y80, zSH), (.sI, y81, zSG), (.sI, y83, zNd), (.sB, y84, zNc), (.sB, y85, zNb), (.sB, y86, zNa), (.sB, y87, zMZ), (.sL, y82, zSF), (.sI, y88, zQQ), zU8, zSI, zU7, zSI, (.sS, y91, zUz), zU6])) .fail) (.fork (.app 834 zH7) (.leaf (some [(.sI, y69, y47), zU5, zU4, zU3, zU2, zU1, zU0, zLL, zUA, zU9, zIW, zIV,
 zIU, zIT, zIS, zJh, zJg, zJf, zJe, zJd, zJc, zJb, zJa, zIZ, (.sI, y77, zNe), (.sI, y78, (.app 832 zH7)), (.sB, y79, (.app 833 zH7)), (.sI, y80, zSH), (.sI, y81, zSG), (.sI, y83, zNd), (.sB, y84, zNc), (.sB, y85, zNb), (.sB, y86, zNa), (.sB, y87, zMZ), (.sL, y82, zSF), (.sI, y88, zQQ), zU8, zSI, zU7, zSI, (.sS, y91, zUz),
 zU6])) .fail)) (.leaf (some [(.sI, y69, y47), zU5, zU4, zU3, zU2, zU1, zU0, zLL, zUA, zU9, zIW, zIV, zIU, zIT, zIS, zJh, zJg, zJf, zJe, zJd, zJc, zJb, zJa, zIZ, (.sI, y77, zNe), (.sI, y78, (.app 649 zA3)), (.sB, y79, y15), (.sI, y80, zSH), (.sI, y81, zSG), (.sI, y83, zNd), (.sB, y84, zNc), (.sB, y85, zNb), (.sB,
 y86, zNa), (.sB, y87, zMZ), (.sL, y82, zSF), (.sI, y88, zQQ), zU8, zSI, zU7, zSI, (.sS, y91, zUz), zU6]))) .fail) .fail)))) .fail)
set_option maxRecDepth 100000 in
theorem xAb : SCNext.tree Tryz.prog xDK 21 = xGE := by kernel_rfl
abbrev zBq (ρ : Rho) := ((cR ρ).fill (ρ.val 68).asB)
abbrev zBk (ρ : Rho) := ((cR ρ).nextR (ρ.val 68).asB)
abbrev zOb (ρ : Rho) := ((zBq ρ).a.mvX (zBq ρ).a.next.2.2)
abbrev zTm (ρ : Rho) := ((aR4 ρ).setWant ((ρ.val 29).asI == 0))
abbrev xD9 (ρ : Rho) := ({ cR ρ with c := { zAd ρ with says := Frm.none } } : CSt)
abbrev xD8 (ρ : Rho) := ({ cR ρ with c := { zAd ρ with asks := Frm.none } } : CSt)
abbrev xD7 (ρ : Rho) := ({ (zBq ρ).a.next.1 with d := (ρ.val 47).asI } : Frm)
abbrev zZA (ρ : Rho) := ((zOb ρ).setWant ((zBq ρ).pn == 0))
abbrev xGh (ρ : Rho) := ({ (aR4 ρ) with left := ((aR4 ρ).setWant false).left, wants := ((aR4 ρ).setWant false).wants } : ASt)
set_option maxHeartbeats 2000000 in
set_option maxRecDepth 100000 in
theorem xAa : SumOK Tryz.prog xDK 21 SCNext 3328 40 fnC := by
 intro ρ hf hok;rw [xAb];rw [show fnC (3328 + 40) (zFf ρ.val SCNext.us) = .dB (zJ3 (cR ρ) (ρ.val 68).asB) from by kernel_rfl, zEa] at hok
 obtain ⟨e0, e1, e2, e3, e4, e5, e6, e7, e8, e9, e10, e11, e12, e13, e14, e15, e16, e17, e18, e19, e20, e21, e22, e23, e24, e25, e26, e27, e28, e29, e30, e31, e32, e33, e34, e35, e36, e37, e38, e39⟩ : vI (zAc SCNext 3328 ρ) 69 = (zBk ρ).1.d ∧ vB (zAc SCNext 3328 ρ) 70 = (zBk ρ).1.c ∧ vI (zAc SCNext 3328 ρ) 71 = (zBk ρ).1.k ∧ vB (zAc SCNext 3328 ρ) 72 = (zBk ρ).1.pf ∧ vI (zAc SCNext 3328 ρ) 73 = (zBk ρ).1.ns ∧ vI (zAc SCNext 3328 ρ) 74 = (zBk ρ).1.nr ∧ vS (zAc SCNext 3328 ρ) 75 = (zBk ρ).1.info ∧ vB (zAc SCNext 3328 ρ) 76 = (zBk ρ).2.1 ∧ vI (zAc SCNext 3328 ρ) 77 = (zBk ρ).2.2.a.out ∧ vI (zAc SCNext 3328 ρ) 78 = (zBk ρ).2.2.a.left ∧ vB (zAc SCNext 3328 ρ) 79 = (zBk ρ).2.2.a.wants ∧ vI (zAc SCNext 3328 ρ) 80 = (zBk ρ).2.2.a.off ∧ vI (zAc SCNext 3328 ρ) 81 = (zBk ρ).2.2.a.len ∧ vL (zAc SCNext 3328 ρ) 82 = (zBk ρ).2.2.a.L ∧ vI (zAc SCNext 3328 ρ) 83 = (zBk ρ).2.2.a.high ∧ vB (zAc SCNext 3328 ρ) 84 = (zBk ρ).2.2.a.due ∧ vB (zAc SCNext 3328 ρ) 85 = (zBk ρ).2.2.a.final ∧ vB (zAc SCNext 3328 ρ) 86 = (zBk ρ).2.2.a.reject ∧ vB (zAc SCNext 3328 ρ) 87 = (zBk ρ).2.2.a.poll ∧ vI (zAc SCNext 3328 ρ) 88 = (zBk ρ).2.2.pn ∧ vI (zAc SCNext 3328 ρ) 89 = (zBk ρ).2.2.owe ∧ vI (zAc SCNext 3328 ρ) 90 = (zBk ρ).2.2.c.qf ∧ vS (zAc SCNext 3328 ρ) 91 = (zBk ρ).2.2.c.qt ∧ vI (zAc SCNext 3328 ρ) 92 = (zBk ρ).2.2.c.po ∧ vI (zAc SCNext 3328 ρ) 93 = (zBk ρ).2.2.c.pl ∧ vL (zAc SCNext 3328 ρ) 94 = (zBk ρ).2.2.c.pL ∧ vI (zAc SCNext 3328 ρ) 95 = (zBk ρ).2.2.c.says.d ∧ vB (zAc SCNext 3328 ρ) 96 = (zBk ρ).2.2.c.says.c ∧ vI (zAc SCNext 3328 ρ) 97 = (zBk ρ).2.2.c.says.k ∧ vB (zAc SCNext 3328 ρ) 98 = (zBk ρ).2.2.c.says.pf ∧ vI (zAc SCNext 3328 ρ) 99 = (zBk ρ).2.2.c.says.ns ∧ vI (zAc SCNext 3328 ρ) 100 = (zBk ρ).2.2.c.says.nr ∧ vS (zAc SCNext 3328 ρ) 101 = (zBk ρ).2.2.c.says.info ∧ vI (zAc SCNext 3328 ρ) 102 = (zBk ρ).2.2.c.asks.d ∧ vB (zAc SCNext 3328 ρ) 103 = (zBk ρ).2.2.c.asks.c ∧ vI (zAc SCNext 3328 ρ) 104 = (zBk ρ).2.2.c.asks.k ∧ vB (zAc SCNext 3328 ρ) 105 = (zBk ρ).2.2.c.asks.pf ∧ vI (zAc SCNext 3328 ρ) 106 = (zBk ρ).2.2.c.asks.ns ∧ vI (zAc SCNext 3328 ρ) 107 = (zBk ρ).2.2.c.asks.nr ∧ vS (zAc SCNext 3328 ρ) 108 = (zBk ρ).2.2.c.asks.info := by
  obtain ⟨val, fn⟩ := ρ; obtain rfl : fn = fnC := hf;exact ⟨by kernel_rfl, by kernel_rfl, by kernel_rfl, by kernel_rfl, by kernel_rfl, by kernel_rfl, by kernel_rfl, by kernel_rfl, by kernel_rfl, by kernel_rfl, by kernel_rfl, by kernel_rfl, by kernel_rfl, by kernel_rfl, by kernel_rfl, by kernel_rfl, by kernel_rfl, by kernel_rfl, by kernel_rfl, by kernel_rfl, by kernel_rfl, by kernel_rfl, by kernel_rfl, by kernel_rfl, by kernel_rfl, by kernel_rfl, by kernel_rfl, by kernel_rfl, by kernel_rfl, by kernel_rfl, by kernel_rfl, by kernel_rfl, by kernel_rfl, by kernel_rfl, by kernel_rfl, by kernel_rfl, by kernel_rfl, by kernel_rfl, by kernel_rfl, by kernel_rfl⟩
 have K : ∀ {t : Frm × Bool × CSt} {b0 b2 b4 b5 b23 b24 b26 b28 b30 b31 b33 b35 b37 b38 b8 b9 b11 b12 b14 b19 b20 b21 n22 : Int} {b1 b3 b7 b27 b29 b34 b36 b10 b15 b16 b17 b18 : Bool} {b6 b32 b39 b22 : List UInt8} {b13 b25 : List (List Dat)}, (cR ρ).nextR (ρ.val 68).asB = t → nx0 t = b0 → nx1 t = b1 → nx2 t = b2 → nx3 t = b3 → nx4 t = b4 → nx5 t = b5 → nx6 t = b6 → nx7 t = b7 → xJm t = b23 → xJl t = b24 → xJj t = b26 → xJi t = b27 → xJh t = b28 → xJg t = b29 → xJf t = b30 → xJe t = b31 → xJd t = b32 → xJc t = b33 → xJb t = b34 → xJa t = b35 → xIZ t = b36 → xIY t = b37 → xIX t = b38 → xIW t = b39 → nx8 t = b8 → nx9 t = b9 → xJx t = b10 → xJw t = b11 → xJv t = b12 → xJt t = b14 → xJs t = b15 → xJr t = b16 → xJq t = b17 → xJp t = b18 → xJu t = b13 → xJo t = b19 → xJn t = b20 → xIa t = b21 → zDL (xHx t) = n22 → xHx t = b22 → xJk t = b25 → vI (zAc SCNext 3328 ρ) 69 = b0 ∧ vB (zAc SCNext 3328 ρ) 70 = b1 ∧ vI (zAc SCNext 3328 ρ) 71 = b2 ∧ vB (zAc SCNext 3328 ρ) 72 = b3 ∧ vI (zAc SCNext 3328 ρ) 73 = b4 ∧ vI (zAc SCNext 3328 ρ) 74 = b5 ∧ vS (zAc SCNext 3328 ρ) 75 = b6 ∧ vB (zAc SCNext 3328 ρ) 76 = b7 ∧ vI (zAc SCNext 3328 ρ) 92 = b23 ∧ vI (zAc SCNext 3328 ρ) 93 = b24 ∧ vI (zAc SCNext 3328 ρ) 95 = b26 ∧ vB (zAc SCNext 3328 ρ) 96 = b27 ∧ vI (zAc SCNext 3328 ρ) 97 = b28 ∧ vB (zAc SCNext 3328 ρ) 98 = b29 ∧ vI (zAc SCNext 3328 ρ) 99 = b30 ∧ vI (zAc SCNext 3328 ρ) 100 = b31 ∧ vS (zAc SCNext 3328 ρ) 101 = b32 ∧ vI (zAc SCNext 3328 ρ) 102 = b33 ∧ vB (zAc SCNext 3328 ρ) 103 = b34 ∧ vI (zAc SCNext 3328 ρ) 104 = b35 ∧ vB (zAc SCNext 3328 ρ) 105 = b36 ∧ vI (zAc SCNext 3328 ρ) 106 = b37 ∧ vI (zAc SCNext 3328 ρ) 107 = b38 ∧ vS (zAc SCNext 3328 ρ) 108 = b39 ∧ vI (zAc SCNext 3328 ρ) 77 = b8 ∧ vI (zAc SCNext 3328 ρ) 78 = b9 ∧ vB (zAc SCNext 3328 ρ) 79 = b10 ∧ vI (zAc SCNext 3328 ρ) 80 = b11 ∧ vI (zAc SCNext 3328 ρ) 81 = b12 ∧ vI (zAc SCNext 3328 ρ) 83 = b14 ∧ vB (zAc SCNext 3328 ρ) 84 = b15 ∧ vB (zAc SCNext 3328 ρ) 85 = b16 ∧ vB (zAc SCNext 3328 ρ) 86 = b17 ∧ vB (zAc SCNext 3328 ρ) 87 = b18 ∧ vL (zAc SCNext 3328 ρ) 82 = b13 ∧ vI (zAc SCNext 3328 ρ) 88 = b19 ∧ vI (zAc SCNext 3328 ρ) 89 = b20 ∧ vI (zAc SCNext 3328 ρ) 90 = b21 ∧ zDL (vS (zAc SCNext 3328 ρ) 91) = n22 ∧ vI (zAc SCNext 3328 ρ) 90 = b21 ∧ vS (zAc SCNext 3328 ρ) 91 = b22 ∧ vL (zAc SCNext 3328 ρ) 94 = b25 ∧ True := by
  intro t b0 b2 b4 b5 b23 b24 b26 b28 b30 b31 b33 b35 b37 b38 b8 b9 b11 b12 b14 b19 b20 b21 n22 b1 b3 b7 b27 b29 b34 b36 b10 b15 b16 b17 b18 b6 b32 b39 b22 b13 b25 hw g0 g1 g2 g3 g4 g5 g6 g7 g8 g9 g10 g11 g12 g13 g14 g15 g16 g17 g18 g19 g20 g21 g22 g23 g24 g25 g26 g27 g28 g29 g30 g31 g32 g33 g34 g35 g36 g37 g38 g39 g40;exact ⟨z3 (f := nx0) e0 hw g0, z3 (f := nx1) e1 hw g1, z3 (f := nx2) e2 hw g2, z3 (f := nx3) e3 hw g3, z3 (f := nx4) e4 hw g4, z3 (f := nx5) e5 hw g5, z3 (f := nx6) e6 hw g6, z3 (f := nx7) e7 hw g7, z3 (f := xJm) e23 hw g8, z3 (f := xJl) e24 hw g9, z3 (f := xJj) e26 hw g10, z3 (f := xJi) e27 hw g11, z3 (f := xJh) e28 hw g12, z3 (f := xJg) e29 hw g13, z3 (f := xJf) e30 hw g14, z3 (f := xJe) e31 hw g15, z3 (f := xJd) e32 hw g16, z3 (f := xJc) e33 hw g17, z3 (f := xJb) e34 hw g18, z3 (f := xJa) e35 hw g19, z3 (f := xIZ) e36 hw g20, z3 (f := xIY) e37 hw g21, z3 (f := xIX) e38 hw g22, z3 (f := xIW) e39 hw g23, z3 (f := nx8) e8 hw g24, z3 (f := nx9) e9 hw g25, z3 (f := xJx) e10 hw g26, z3 (f := xJw) e11 hw g27, z3 (f := xJv) e12 hw g28, z3 (f := xJt) e14 hw g29, z3 (f := xJs) e15 hw g30, z3 (f := xJr) e16 hw g31, z3 (f := xJq) e17 hw g32, z3 (f := xJp) e18 hw g33, z3 (f := xJu) e13 hw g34, z3 (f := xJo) e19 hw g35, z3 (f := xJn) e20 hw g36, z3 (f := xIa) e21 hw g37, (congrArg zDL (e22.trans (congrArg xHx hw))).trans g38, z3 (f := xIa) e21 hw g37, z3 (f := xHx) e22 hw g39, z3 (f := xJk) e25 hw g40, trivial⟩
 obtain ⟨a0, a1, a2, a3, a4, a5, a6, a7, a8, a9, a10, a11, a12, a13, a14, a15, a16, a17, a18, a19, a20, a21, a22, a23, a24, a25, a26, a27, a28, a29, a30, a31, a32, a33, a34, a35, a36, a37, a38, a39⟩ : tB ρ (.app 641 zA3) = (zBq ρ).a.next.1.c ∧ tI ρ (.app 642 zA3) = (zBq ρ).a.next.1.k ∧ tB ρ (.app 643 zA3) = (zBq ρ).a.next.1.pf ∧ tI ρ (.app 644 zA3) = (zBq ρ).a.next.1.ns ∧ tI ρ (.app 645 zA3) = (zBq ρ).a.next.1.nr ∧ tS ρ (.app 646 zA3) = (zBq ρ).a.next.1.info ∧ tI ρ (.app 648 zA3) = (zBq ρ).a.next.2.2.out ∧ tI ρ (.app 649 zA3) = (zBq ρ).a.next.2.2.left ∧ tI ρ (.app 650 zA3) = (zBq ρ).a.next.2.2.high ∧ tB ρ (.app 651 zA3) = (zBq ρ).a.next.2.2.due ∧ tB ρ (.app 652 zA3) = (zBq ρ).a.next.2.2.final ∧ tB ρ (.app 653 zA3) = (zBq ρ).a.next.2.2.reject ∧ tB ρ (.app 654 zA3) = (zBq ρ).a.next.2.2.poll ∧ tB ρ (.app 655 zA3) = decide (0 ≤ (zBq ρ).a.out ∧ (zBq ρ).a.out ≤ 100 ∧ 0 ≤ (zBq ρ).a.len ∧ 0 ≤ (zBq ρ).a.off) ∧ tI ρ (.app 832 zEs) = (zTm ρ).left ∧ tI ρ (.app 832 zEr) = ((aR4 ρ).setWant false).left ∧ tI ρ (.app 832 zH8) = (zZA ρ).left ∧ tI ρ (.app 832 zH7) = ((zOb ρ).setWant false).left ∧ tB ρ (.app 833 zEs) = (zTm ρ).wants ∧ tB ρ (.app 833 zEr) = ((aR4 ρ).setWant false).wants ∧ tB ρ (.app 833 zH8) = (zZA ρ).wants ∧ tB ρ (.app 833 zH7) = ((zOb ρ).setWant false).wants ∧ tB ρ (.app 834 zEs) = true ∧ tB ρ (.app 834 zEr) = true ∧ tB ρ (.app 834 zH8) = true ∧ tB ρ (.app 834 zH7) = true ∧ tI ρ (.app 3264 zAE) = (zBq ρ).a.left ∧ tI ρ (.app 3265 zAE) = (zBq ρ).a.off ∧ tI ρ (.app 3266 zAE) = (zBq ρ).a.len ∧ tL ρ (.app 3267 zAE) = (zBq ρ).a.L ∧ tI ρ (.app 3268 zAE) = (zBq ρ).pn ∧ tI ρ (.app 3269 zAE) = (zBq ρ).owe ∧ tI ρ (.app 3270 zAE) = (zBq ρ).c.qf ∧ tS ρ (.app 3271 zAE) = (zBq ρ).c.qt ∧ tI ρ (.app 3272 zAE) = (zBq ρ).c.po ∧ tI ρ (.app 3273 zAE) = (zBq ρ).c.pl ∧ tL ρ (.app 3274 zAE) = (zBq ρ).c.pL ∧ tB ρ (.app 3275 zAE) = (cR ρ).fillOk (ρ.val 68).asB ∧ tB ρ (.app 3392 zM6) = (cR ρ).has (ρ.val 68).asB ∧ tB ρ (.app 3393 zM6) = true := by
  obtain ⟨val, fn⟩ := ρ; obtain rfl : fn = fnC := hf;exact ⟨by kernel_rfl, by kernel_rfl, by kernel_rfl, by kernel_rfl, by kernel_rfl, by kernel_rfl, by kernel_rfl, by kernel_rfl, by kernel_rfl, by kernel_rfl, by kernel_rfl, by kernel_rfl, by kernel_rfl, by kernel_rfl, by kernel_rfl, by kernel_rfl, by kernel_rfl, by kernel_rfl, by kernel_rfl, by kernel_rfl, by kernel_rfl, by kernel_rfl, by kernel_rfl, by kernel_rfl, by kernel_rfl, by kernel_rfl, by kernel_rfl, by kernel_rfl, by kernel_rfl, by kernel_rfl, by kernel_rfl, by kernel_rfl, by kernel_rfl, by kernel_rfl, by kernel_rfl, by kernel_rfl, by kernel_rfl, by kernel_rfl, by kernel_rfl, by kernel_rfl⟩
 obtain ⟨hok1, hok2⟩ := Bool.and_eq_true_iff.1 hok;have b3275 := a37.trans hok1;have b655 := a13.trans hok2;unfold xGE;refine zAb (fun _ => ?_) (fun h0 => absurd (a39.symm.trans h0) (by decide))
 refine zAb (fun h0 => ?_) (fun h0 => ?_)
 ·have gh : (cR ρ).has (ρ.val 68).asB = false := by rw [zDo] at h0; rw [← a38]; exact h0
  have hw : (cR ρ).nextR (ρ.val 68).asB = ((Frm.none, false, cR ρ) : Frm × Bool × CSt) := zST gh;exact zAk (K hw rfl rfl rfl rfl rfl rfl rfl rfl rfl rfl rfl rfl rfl rfl rfl rfl rfl rfl rfl rfl rfl rfl rfl rfl rfl rfl rfl rfl rfl rfl rfl rfl rfl rfl rfl rfl rfl rfl (congrArg zDL rfl) rfl rfl)
 ·have gh : (cR ρ).has (ρ.val 68).asB = true := by rw [zDp] at h0; rw [← a38]; exact h0
  refine zAb (fun h1 => ?_) (fun h1 => ?_)
  ·have gy : ¬ (ρ.val 56).asI = 0 := by rw [zEk] at h1; exact h1
   refine zAb (fun h2 => ?_) (fun h2 => ?_)
   ·have gs : (ρ.val 48).asI = 3 := by rw [zAU] at h2; exact h2
    refine zAb (fun h3 => ?_) (fun h3 => ?_)
    ·have gl : (0 : Int) < ((ρ.val 35).asS.length : Int) := by rw [zAT] at h3; exact h3.1
     refine zAb (fun _ => ?_) (fun h4 => absurd (a22.symm.trans h4) (by decide))
     have hw : (cR ρ).nextR (ρ.val 68).asB = (((fR4 ρ 54), true, { (xD9 ρ) with a := ({ (aR4 ρ) with left := (zTm ρ).left, wants := (zTm ρ).wants } : ASt) }) : Frm × Bool × CSt) := zHj gh gy ((zD5 gs gl).trans (ASt.setWant_eq _ _))
     exact zAk (K hw rfl rfl rfl rfl rfl rfl rfl rfl rfl rfl rfl rfl rfl rfl rfl rfl rfl rfl rfl rfl rfl rfl rfl rfl rfl a14.symm a18.symm rfl rfl rfl rfl rfl rfl rfl rfl rfl rfl rfl (congrArg zDL rfl) rfl rfl)
    ·have gl : ((ρ.val 35).asS.length : Int) ≤ 0 := by rw [zAO] at h3; exact h3.1
     refine zAb (fun _ => ?_) (fun h4 => absurd (a23.symm.trans h4) (by decide))
     have hw : (cR ρ).nextR (ρ.val 68).asB = (((fR4 ρ 54), true, { (xD9 ρ) with a := (xGh ρ) }) : Frm × Bool × CSt) := zHj gh gy ((zD6 gs gl).trans (ASt.setWant_eq _ _))
     exact zAk (K hw rfl rfl rfl rfl rfl rfl rfl rfl rfl rfl rfl rfl rfl rfl rfl rfl rfl rfl rfl rfl rfl rfl rfl rfl rfl a15.symm a19.symm rfl rfl rfl rfl rfl rfl rfl rfl rfl rfl rfl (congrArg zDL rfl) rfl rfl)
   ·have gs : ¬ (ρ.val 48).asI = 3 := by rw [zAQ] at h2; exact h2
    have hw : (cR ρ).nextR (ρ.val 68).asB = (((fR4 ρ 54), true, { (xD9 ρ) with a := (aR4 ρ) }) : Frm × Bool × CSt) := zHj gh gy (zDe gs)
    exact zAk (K hw rfl rfl rfl rfl rfl rfl rfl rfl rfl rfl rfl rfl rfl rfl rfl rfl rfl rfl rfl rfl rfl rfl rfl rfl rfl rfl rfl rfl rfl rfl rfl rfl rfl rfl rfl rfl rfl rfl (congrArg zDL rfl) rfl rfl)
  ·have gy : (ρ.val 56).asI = 0 := by rw [zEl] at h1; exact h1
   refine zAb (fun h2 => ?_) (fun h2 => ?_)
   ·have gk : ¬ (ρ.val 63).asI = 0 := by rw [zEk] at h2; exact h2
    refine zAb (fun h3 => ?_) (fun h3 => ?_)
    ·have gs : (ρ.val 48).asI = 3 := by rw [zAU] at h3; exact h3
     refine zAb (fun h4 => ?_) (fun h4 => ?_)
     ·have gl : (0 : Int) < ((ρ.val 35).asS.length : Int) := by rw [zAT] at h4; exact h4.1
      refine zAb (fun _ => ?_) (fun h5 => absurd (a22.symm.trans h5) (by decide))
      have hw : (cR ρ).nextR (ρ.val 68).asB = (((fR4 ρ 61), true, { (xD8 ρ) with a := ({ (aR4 ρ) with left := (zTm ρ).left, wants := (zTm ρ).wants } : ASt) }) : Frm × Bool × CSt) := zHu gh gy gk ((zD5 gs gl).trans (ASt.setWant_eq _ _))
      exact zAk (K hw rfl rfl rfl rfl rfl rfl rfl rfl rfl rfl rfl rfl rfl rfl rfl rfl rfl rfl rfl rfl rfl rfl rfl rfl rfl a14.symm a18.symm rfl rfl rfl rfl rfl rfl rfl rfl rfl rfl rfl (congrArg zDL rfl) rfl rfl)
     ·have gl : ((ρ.val 35).asS.length : Int) ≤ 0 := by rw [zAO] at h4; exact h4.1
      refine zAb (fun _ => ?_) (fun h5 => absurd (a23.symm.trans h5) (by decide))
      have hw : (cR ρ).nextR (ρ.val 68).asB = (((fR4 ρ 61), true, { (xD8 ρ) with a := (xGh ρ) }) : Frm × Bool × CSt) := zHu gh gy gk ((zD6 gs gl).trans (ASt.setWant_eq _ _))
      exact zAk (K hw rfl rfl rfl rfl rfl rfl rfl rfl rfl rfl rfl rfl rfl rfl rfl rfl rfl rfl rfl rfl rfl rfl rfl rfl rfl a15.symm a19.symm rfl rfl rfl rfl rfl rfl rfl rfl rfl rfl rfl (congrArg zDL rfl) rfl rfl)
    ·have gs : ¬ (ρ.val 48).asI = 3 := by rw [zAQ] at h3; exact h3
     have hw : (cR ρ).nextR (ρ.val 68).asB = (((fR4 ρ 61), true, { (xD8 ρ) with a := (aR4 ρ) }) : Frm × Bool × CSt) := zHu gh gy gk (zDe gs)
     exact zAk (K hw rfl rfl rfl rfl rfl rfl rfl rfl rfl rfl rfl rfl rfl rfl rfl rfl rfl rfl rfl rfl rfl rfl rfl rfl rfl rfl rfl rfl rfl rfl rfl rfl rfl rfl rfl rfl rfl rfl (congrArg zDL rfl) rfl rfl)
   ·have gk : (ρ.val 63).asI = 0 := by rw [zEl] at h2; exact h2
    refine zAb (fun _ => ?_) (fun h3 => absurd (b3275.symm.trans h3) (by decide))
    refine zAb (fun _ => ?_) (fun h3 => absurd (b655.symm.trans h3) (by decide))
    refine zAb (fun h3 => ?_) (fun h3 => ?_)
    ·have gs : (ρ.val 48).asI = 3 := by rw [zAU] at h3; exact h3
     refine zAb (fun h4 => ?_) (fun h4 => ?_)
     ·have gl : (0 : Int) < ((zBq ρ).c.qt.length : Int) := by rw [zAT] at h4; rw [← a33]; exact h4.1
      refine zAb (fun _ => ?_) (fun h5 => absurd (a24.symm.trans h5) (by decide))
      have hw : (cR ρ).nextR (ρ.val 68).asB = (((xD7 ρ), true, { (zBq ρ) with a := ({ (zOb ρ) with left := (zZA ρ).left, wants := (zZA ρ).wants } : ASt) }) : Frm × Bool × CSt) := zHt gh gy gk ((zD5 gs gl).trans (ASt.setWant_eq _ _))
      exact zAk (K hw rfl a0.symm a1.symm a2.symm a3.symm a4.symm a5.symm rfl a34.symm a35.symm rfl rfl rfl rfl rfl rfl rfl rfl rfl rfl rfl rfl rfl rfl a6.symm a16.symm a20.symm a27.symm a28.symm a8.symm a9.symm a10.symm a11.symm a12.symm a29.symm a30.symm a31.symm a32.symm (congrArg zDL a33.symm) a33.symm a36.symm)
     ·have gl : ((zBq ρ).c.qt.length : Int) ≤ 0 := by rw [zAO] at h4; rw [← a33]; exact h4.1
      refine zAb (fun _ => ?_) (fun h5 => absurd (a25.symm.trans h5) (by decide))
      have hw : (cR ρ).nextR (ρ.val 68).asB = (((xD7 ρ), true, { (zBq ρ) with a := ({ (zOb ρ) with left := ((zOb ρ).setWant false).left, wants := ((zOb ρ).setWant false).wants } : ASt) }) : Frm × Bool × CSt) := zHt gh gy gk ((zD6 gs gl).trans (ASt.setWant_eq _ _))
      exact zAk (K hw rfl a0.symm a1.symm a2.symm a3.symm a4.symm a5.symm rfl a34.symm a35.symm rfl rfl rfl rfl rfl rfl rfl rfl rfl rfl rfl rfl rfl rfl a6.symm a17.symm a21.symm a27.symm a28.symm a8.symm a9.symm a10.symm a11.symm a12.symm a29.symm a30.symm a31.symm a32.symm (congrArg zDL a33.symm) a33.symm a36.symm)
    ·have gs : ¬ (ρ.val 48).asI = 3 := by rw [zAQ] at h3; exact h3
     have hw : (cR ρ).nextR (ρ.val 68).asB = (((xD7 ρ), true, { (zBq ρ) with a := (zOb ρ) }) : Frm × Bool × CSt) := zHt gh gy gk (zDe gs)
     exact zAk (K hw rfl a0.symm a1.symm a2.symm a3.symm a4.symm a5.symm rfl a34.symm a35.symm rfl rfl rfl rfl rfl rfl rfl rfl rfl rfl rfl rfl rfl rfl a6.symm a7.symm rfl a27.symm a28.symm a8.symm a9.symm a10.symm a11.symm a12.symm a29.symm a30.symm a31.symm a32.symm (congrArg zDL a33.symm) a33.symm a36.symm)
end
end Go.Proofs.YtenkabjkgngcdaaGreat.Ab
