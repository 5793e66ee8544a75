import Derived.Test.YtenkabjkgngcdaaGreatKd5
import Derived.Test.YtenkabjkgngcdaaGreatKb6
import Derived.Test.YtenkabjkgngcdaaGreatKa4
set_option linter.unusedVariables false
set_option linter.unusedSimpArgs false
set_option linter.unusedSectionVars false
namespace Go.Proofs.YtenkabjkgngcdaaGreat.Ab
open Go
noncomputable section
def xII : List (Nat × zM9) := [(10, zZL SCOpen 2624 68 1 4096 xH9), (16, zZL SCClose 2688 68 1 4160 xH9), (11, zZL SCWrite 2752 68 2 4224 [35, 10, 15]), (14, zZL SCRead 2816 68 1 4288 [38, 31, 33]),
 (24, zZL SCHear 3136 68 0 4352 xHi), (20, zZL SCTick 3200 68 0 4416 xHe), (21, zZL SCNext 3328 68 8 4480 xHh)]
theorem zYv {ρ : Rho} (hf : ρ.fn = fnC) : TabOK ρ xES := ⟨zA6 hf (SumOK.all zGM xDX), zA6 hf zZD, zA6 hf (SumOK.all zGM zSg), zI3 hf⟩
theorem zXm : ∀ ρ0 : Rho, ρ0.fn = fnC → @EnvOK ρ0 Tryz.prog xDK := fun ρ0 hf => zET (zYv hf)
theorem zJV {ρ : Rho} (hf : ρ.fn = fnC) {f : FuncId} {S : Sum} {N nres idx q r : Nat} {chg : List Nat} (hq : ∀ l, xFT q l = zRy xFT S N nres idx r chg l) (hN : N ≤ S.m) (hus : S.us.all (fun i => Nat.blt i S.m) = true) (h0 : 0 < N) (hd : chg.Nodup) (hl : nres + chg.length ≤ 62) (hn6 : nres ≤ 60) (hr : r < 64)
  (hS : zYp Tryz.prog f S (64 * idx) r fnC) : CG ρ f (zZL S (64 * idx) N nres (64 * q) chg) :=
 fun args H o v H' _ h ho => xDQ zCq hq hN hus hf h0 hd hl hn6 hr hS h ho
set_option maxRecDepth 100000 in
theorem xBP {ρ : Rho} (hf : ρ.fn = fnC) : TabOK ρ xII :=
 ⟨zJV (idx := 41) (q := 64) (r := 27) hf (fun l => by kernel_rfl) (by decide) (by decide) (by decide) (by decide) (by decide) (by decide) (by decide) (SumOK.all zJQ zZY),
  zJV (idx := 42) (q := 65) (r := 27) hf (fun l => by kernel_rfl) (by decide) (by decide) (by decide) (by decide) (by decide) (by decide) (by decide) (SumOK.all zJQ zXX),
  zJV (idx := 43) (q := 66) (r := 5) hf (fun l => by kernel_rfl) (by decide) (by decide) (by decide) (by decide) (by decide) (by decide) (by decide) (SumOK.all zJT zXA),
  zJV (idx := 44) (q := 67) (r := 4) hf (fun l => by kernel_rfl) (by decide) (by decide) (by decide) (by decide) (by decide) (by decide) (by decide) (SumOK.all zGM zZW),
  zJV (idx := 49) (q := 68) (r := 47) hf (fun l => by kernel_rfl) (by decide) (by decide) (by decide) (by decide) (by decide) (by decide) (by decide) (SumOK.all zOi xAc),
  zJV (idx := 50) (q := 69) (r := 32) hf (fun l => by kernel_rfl) (by decide) (by decide) (by decide) (by decide) (by decide) (by decide) (by decide) (SumOK.all zOi zZU),
  zJV (idx := 52) (q := 70) (r := 40) hf (fun l => by kernel_rfl) (by decide) (by decide) (by decide) (by decide) (by decide) (by decide) (by decide) (SumOK.all zXm xAa), trivial⟩
end
end Go.Proofs.YtenkabjkgngcdaaGreat.Ab
namespace Go.Proofs.YtenkabjkgngcdaaGreat.Ab
open Go
noncomputable section
def xHr : List Kd := [.ki .u8, .kb, .ki .u8, .kb, .ki .u8, .ki .u8, .ks]
def shSt : List Kd := [.ki .u8, .kb, .kb, .ki .u8, .ks]
def poR : List (Nat × AObj) := [(26, .row [.slice 22 0 2 (.known 2), .slice 23 0 2 (.known 2), .slice 24 0 2 (.known 2), .slice 25 0 2 (.known 2), bv 140] true false),
 (22, .row [.ptr 0 0, .ptr 11 0] true false),
 (23, .row [.sslice 27 7 xEH xEr, .sslice 28 7 xHm xIG] true false),
 (24, .row [.sstr xEJ, .sstr xEI] true true),
 (25, .row [.sstr xB9, .sstr xB8] true true),
 (27, .seq xHr xEG true),
 (28, .seq xHr xHl true),
 (0, .row [.ptr 1 0, .ptr 2 0, .ptr 4 0, .ptr 5 0, .ptr 6 0, .ptr 7 0, .ptr 9 0, .sbool y39, .sbool y40, .sint .i64 y41, .sint .i64 y42, .sint .i64 y43, .sint .i64 y44, .sint .i64 y45, .sint .i64 y46, .sint .u8 y47, .sint .u8 y48, .sbool y49, .sslice 10 1 y50 y51, .sint .i64 y53, .sint .u8 y54, .sbool y55, .sint .u8 y56, .sbool y57, .sint .u8 y58, .sint .u8 y59, .sstr y60, .sint .u8 y61, .sbool y62, .sint .u8 y63, .sbool y64, .sint .u8 y65, .sint .u8 y66, .sstr y67] true false),
 (1, .row [.sint .u8 y0, .sbool y1, .sint .i64 y2, .sint .i64 y3] true true),
 (2, .row [.sint .u8 y4, .sint .u8 y5, .sint .u8 y6, .sint .i64 y7, .sint .i64 y8, .sint .i64 y9, .sint .i64 y10, .sbool y11, .sbool y12, .sbool y13, .sbool y14, .sbool y15, .sbool y16, .sint .i64 y17, .sint .i64 y18, .sint .i64 y19, .sslice 3 1 y20 y21, .sint .i64 y23, .sbool y24, .sbool y25, .sbool y26, .sbool y27] true false),
 (3, .seq [.ks] y22 true),
 (4, .row [.sbool y28] true true),
 (5, .row [.sint .i64 y29, .sint .i64 y30] true true),
 (6, .row [.sint .i64 y31, .sint .i64 y32, .sint .i64 y33] true true),
 (7, .row [.sslice 8 1 (.ci 0) y36, .sint .i64 y34, .sint .i64 (.len y35)] true false),
 (8, .abs 2 (.pair y34 (.pair y36 y35))),
 (9, .abs 1 (.pair y37 y38)),
 (10, .seq [.ks] y52 true),
 (11, .row [.ptr 12 0, .ptr 13 0, .ptr 15 0, .ptr 16 0, .ptr 17 0, .ptr 18 0, .ptr 20 0, .sbool zOK, .sbool zOP, .sint .i64 zYi, .sint .i64 zYh, .sint .i64 zYb, .sint .i64 y112, .sint .i64 y113, .sint .i64 y114, .sint .u8 y115, .sint .u8 xEO, .sbool xEN, .sslice 21 1 xEM xEL, .sint .i64 xEs, .sint .u8 xJK, .sbool xJJ, .sint .u8 xJI, .sbool xJH, .sint .u8 xJG, .sint .u8 xJF, .sstr xJE, .sint .u8 xJD, .sbool xJC, .sint .u8 xJB, .sbool xJA, .sint .u8 xJ9, .sint .u8 xJ8, .sstr xJ7] true false),
 (12, .row [.sint .u8 y68, .sbool y69, .sint .i64 y70, .sint .i64 y71] true true),
 (13, .row [.sint .u8 y72, .sint .u8 y73, .sint .u8 y74, .sint .i64 y75, .sint .i64 y76, .sint .i64 y77, .sint .i64 y78, .sbool y79, .sbool y80, .sbool y81, .sbool y82, .sbool y83, .sbool y84, .sint .i64 y85, .sint .i64 y86, .sint .i64 y87, .sslice 14 1 y88 y89, .sint .i64 y91, .sbool y92, .sbool y93, .sbool y94, .sbool y95] true false),
 (14, .seq [.ks] y90 true),
 (15, .row [.sbool y96] true true),
 (16, .row [.sint .i64 y97, .sint .i64 y98] true true),
 (17, .row [.sint .i64 y99, .sint .i64 zFV, .sint .i64 y101] true true),
 (18, .row [.sslice 19 1 (.ci 0) y104, .sint .i64 y102, .sint .i64 (.len zMA)] true false),
 (19, .abs 2 (.pair y102 (.pair y104 zMA))),
 (20, .abs 1 (.pair zMB zKe)),
 (21, .seq [.ks] xEK true)]
def SRight : Sum := ⟨29, 155, [.ptr 26 0, .agg [bv 147, bv 148, iv 149, iv 150, iv 151, iv 152, iv 153, iv 154]], poR, 29, .bool true, poR, [21, 35, 38, 29, 33, 89, 103, 106, 97, 101, 136, 137, 138, 139, 140, 141, 142, 143, 144, 145, 146, 149, 153, 154]⟩
abbrev fRi : FuncId := 15
abbrev fCp : FuncId := 5
def H0Cp : Heap := ⟨1, [(0, .seq shSt y0 false)], [], []⟩
def xEh : AV := .sslice 0 5 (.ci 0) (.llen y0)
def gCp : AV := .agg [bv 1, bv 2, iv 3, iv 4, iv 5, iv 6, iv 7, iv 8]
def HCp : Heap := ⟨36, [(4, .row [.ptr 28 0, .ptr 6 0, .ptr 7 0, .ptr 8 0, .ptr 9 0, .ptr 11 0, .ptr 12 0, .sbool (prj y10 39), .sbool (prj y10 40), .sint .i64 (prj y10 41), .sint .i64 (prj y10 42), .sint .i64 (prj y10 43), .sint .i64 (prj y10 44), .sint .i64 (prj y10 45), .sint .i64 (prj y10 46), .sint .u8 (prj y10 47), .sint .u8 (prj y10 48), .sbool (prj y10 49), .sslice 32 1 (prj y10 50) (prj y10 51), .sint .i64 (prj y10 53), .sint .u8 (prj y10 54), .sbool (prj y10 55), .sint .u8 (prj y10 56), .sbool (prj y10 57), .sint .u8 (prj y10 58), .sint .u8 (prj y10 59), .sstr (prj y10 60), .sint .u8 (prj y10 61), .sbool (prj y10 62), .sint .u8 (prj y10 63), .sbool (prj y10 64), .sint .u8 (prj y10 65), .sint .u8 (prj y10 66), .sstr (prj y10 67)] true false),
 (28, .row [.sint .u8 (prj y10 0), .sbool (prj y10 1), .sint .i64 (prj y10 2), .sint .i64 (prj y10 3)] true true),
 (6, .row [.sint .u8 (prj y10 4), .sint .u8 (prj y10 5), .sint .u8 (prj y10 6), .sint .i64 (prj y10 7), .sint .i64 (prj y10 8), .sint .i64 (prj y10 9), .sint .i64 (prj y10 10), .sbool (prj y10 11), .sbool (prj y10 12), .sbool (prj y10 13), .sbool (prj y10 14), .sbool (prj y10 15), .sbool (prj y10 16), .sint .i64 (prj y10 17), .sint .i64 (prj y10 18), .sint .i64 (prj y10 19), .sslice 30 1 (prj y10 20) (prj y10 21), .sint .i64 (prj y10 23), .sbool (prj y10 24), .sbool (prj y10 25), .sbool (prj y10 26), .sbool (prj y10 27)] true false),
 (30, .seq [.ks] (prj y10 22) true),
 (7, .row [.sbool (prj y10 28)] true true),
 (8, .row [.sint .i64 (prj y10 29), .sint .i64 (prj y10 30)] true true),
 (9, .row [.sint .i64 (prj y10 31), .sint .i64 (prj y10 32), .sint .i64 (prj y10 33)] true true),
 (11, .row [.sslice 10 1 (.ci 0) (prj y10 36), .sint .i64 (prj y10 34), .sint .i64 (.len (prj y10 35))] true false),
 (10, .abs 2 (.pair (prj y10 34) (.pair (prj y10 36) (prj y10 35)))),
 (12, .abs 1 (.pair (prj y10 37) (prj y10 38))),
 (32, .seq [.ks] (prj y10 52) true),
 (14, .row [.ptr 29 0, .ptr 16 0, .ptr 17 0, .ptr 18 0, .ptr 19 0, .ptr 21 0, .ptr 22 0, .sbool (prj y11 39), .sbool (prj y11 40), .sint .i64 (prj y11 41), .sint .i64 (prj y11 42), .sint .i64 (prj y11 43), .sint .i64 (prj y11 44), .sint .i64 (prj y11 45), .sint .i64 (prj y11 46), .sint .u8 (prj y11 47), .sint .u8 (prj y11 48), .sbool (prj y11 49), .sslice 33 1 (prj y11 50) (prj y11 51), .sint .i64 (prj y11 53), .sint .u8 (prj y11 54), .sbool (prj y11 55), .sint .u8 (prj y11 56), .sbool (prj y11 57), .sint .u8 (prj y11 58), .sint .u8 (prj y11 59), .sstr (prj y11 60), .sint .u8 (prj y11 61), .sbool (prj y11 62), .sint .u8 (prj y11 63), .sbool (prj y11 64), .sint .u8 (prj y11 65), .sint .u8 (prj y11 66), .sstr (prj y11 67)] true false),
 (29, .row [.sint .u8 (prj y11 0), .sbool (prj y11 1), .sint .i64 (prj y11 2), .sint .i64 (prj y11 3)] true true),
 (16, .row [.sint .u8 (prj y11 4), .sint .u8 (prj y11 5), .sint .u8 (prj y11 6), .sint .i64 (prj y11 7), .sint .i64 (prj y11 8), .sint .i64 (prj y11 9), .sint .i64 (prj y11 10), .sbool (prj y11 11), .sbool (prj y11 12), .sbool (prj y11 13), .sbool (prj y11 14), .sbool (prj y11 15), .sbool (prj y11 16), .sint .i64 (prj y11 17), .sint .i64 (prj y11 18), .sint .i64 (prj y11 19), .sslice 31 1 (prj y11 20) (prj y11 21), .sint .i64 (prj y11 23), .sbool (prj y11 24), .sbool (prj y11 25), .sbool (prj y11 26), .sbool (prj y11 27)] true false),
 (31, .seq [.ks] (prj y11 22) true),
 (17, .row [.sbool (prj y11 28)] true true),
 (18, .row [.sint .i64 (prj y11 29), .sint .i64 (prj y11 30)] true true),
 (19, .row [.sint .i64 (prj y11 31), .sint .i64 (prj y11 32), .sint .i64 (prj y11 33)] true true),
 (21, .row [.sslice 20 1 (.ci 0) (prj y11 36), .sint .i64 (prj y11 34), .sint .i64 (.len (prj y11 35))] true false),
 (20, .abs 2 (.pair (prj y11 34) (.pair (prj y11 36) (prj y11 35)))),
 (22, .abs 1 (.pair (prj y11 37) (prj y11 38))),
 (33, .seq [.ks] (prj y11 52) true),
 (23, .row [.ptr 4 0, .ptr 14 0] true false),
 (24, .row [.sslice 34 7 y17 y18, .sslice 35 7 y20 y21] true false),
 (25, .row [.sstr y12, .sstr y13] true true),
 (26, .row [.sstr y14, .sstr y15] true true),
 (27, .row [.slice 23 0 2 (.known 2), .slice 24 0 2 (.known 2), .slice 25 0 2 (.known 2), .slice 26 0 2 (.known 2), bv 16] true false),
 (34, .seq xHr y19 true),
 (35, .seq xHr y22 true),
 (1, .row [bv 1, bv 2, iv 3, iv 4, iv 5, iv 6, iv 7, iv 8] true true),
 (0, .seq shSt y0 false)], [], []⟩
def TCp : St := ⟨59, [(6, iv 9), (5, .ptr 27 0), (2, .ptr 1 0), (1, xEh)], HCp, []⟩
def FCp : St := ⟨59, [], ⟨28, [], [], []⟩, []⟩
def FCr : St := ⟨59, [(4, .bool true)], ⟨28, [], [], []⟩, []⟩
def xBQ : List (Nat × zM9) := (8, xBG) :: (fRi, zFX SRight 5120 0) :: (xII ++ [(37, zWE), (47, zZo), (46, zZn)])
def zIg : Env := ⟨zBP xBQ, fun _ _ => none⟩
end
end Go.Proofs.YtenkabjkgngcdaaGreat.Ab
namespace Go.Proofs.YtenkabjkgngcdaaGreat.Ab
open Go
theorem zKw {α : Type} (P : Nat → α → Prop) (R : Nat → α → α → Prop) (x0 : α) (h0 : P 0 x0) : ∀ n : Nat, (∀ i, i < n → ∀ x, P i x → ∃ y, P (i + 1) y ∧ R i x y) → ∃ f : Nat → α, f 0 = x0 ∧ (∀ i, i ≤ n → P i (f i)) ∧ ∀ i, i < n → R i (f i) (f (i + 1))
 | 0, _ => ⟨fun _ => x0, rfl, fun i hi => by
   obtain rfl : i = 0 := by omega
   exact h0, fun i hi => by omega⟩
 | n + 1, h => by
  obtain ⟨f, f0, f1, f2⟩ := zKw P R x0 h0 n fun i hi => h i (by omega)
  obtain ⟨y, y1, y2⟩ := h n (by omega) (f n) (f1 n (Nat.le_refl _))
  refine ⟨fun i => if i ≤ n then f i else y, by simp [f0], fun i hi => ?_, fun i hi => ?_⟩
  ·by_cases hn : i ≤ n
   ·simp only [if_pos hn]; exact f1 i hn
   ·obtain rfl : i = n + 1 := by omega
    simp only [if_neg hn]; exact y1
  ·by_cases hn : i < n
   ·simp only [if_pos (show i ≤ n by omega), if_pos (show i + 1 ≤ n by omega)]; exact f2 i hn
   ·obtain rfl : i = n := by omega
    simp only [if_pos (Nat.le_refl i), if_neg (show ¬ i + 1 ≤ i by omega)]; exact y2
abbrev NxP (ρ : Rho) (Q : Rho → Prop) (t : Tree (AX × Option Eqs)) : Prop := ∃ ρ', Q ρ' ∧ ∃ es, @Tree.sel _ ρ t = some (AX.normal, some es) ∧ EqsOk ρ' ρ es
section
variable {ρ : Rho} {Q : Rho → Prop}
theorem npT {c : Tm} {x y : Tree (AX × Option Eqs)} (h : (@Tm.den ρ c).asB = true) (n : NxP ρ Q x) : NxP ρ Q (.fork c x y) := by
 obtain ⟨ρ', q, es, h1, h2⟩ := n;exact ⟨ρ', q, es, by rw [zMN h]; exact h1, h2⟩
theorem npF {c : Tm} {x y : Tree (AX × Option Eqs)} (h : (@Tm.den ρ c).asB = false) (n : NxP ρ Q y) : NxP ρ Q (.fork c x y) := by
 obtain ⟨ρ', q, es, h1, h2⟩ := n;exact ⟨ρ', q, es, by rw [zCN h]; exact h1, h2⟩
theorem npL {ρ' : Rho} {es : Eqs} (q : Q ρ') (h : EqsOk ρ' ρ es) : NxP ρ Q (.leaf (.normal, some es)) := ⟨ρ', q, es, rfl, h⟩
theorem npC {c : Tm} {x y : Tree (AX × Option Eqs)} (h1 : (@Tm.den ρ c).asB = true → NxP ρ Q x) (h2 : (@Tm.den ρ c).asB = false → NxP ρ Q y) : NxP ρ Q (.fork c x y) := by
 cases h : (@Tm.den ρ c).asB with
 | true => exact npT h (h1 h)
 | false => exact npF h (h2 h)
end
end Go.Proofs.YtenkabjkgngcdaaGreat.Ab
