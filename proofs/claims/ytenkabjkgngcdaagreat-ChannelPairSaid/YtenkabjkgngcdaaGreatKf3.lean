import Derived.Test.YtenkabjkgngcdaaGreatKf2
import Derived.Test.YtenkabjkgngcdaaGreatKa0
import Derived.Test.YtenkabjkgngcdaaGreatKb6
set_option linter.unusedVariables false
set_option linter.unusedSimpArgs false
set_option linter.unusedSectionVars false
namespace Go.Proofs.YtenkabjkgngcdaaGreat.Ab
open Go
set_option maxRecDepth 100000
noncomputable section
def xHV : Tm := .row (tp [(.ci 1), (.cb true), (.ci 0), (.ite (.ib .gtr .i64 (.ite (.ib .lss .i64 (.ci 255) y6) (.ci 255) y6) (.ci 0)) (.ite (.ib .lss .i64 (.ci 255) y6) (.ci 255) y6) (.ci 0)), (.ci 0), (.ci 0), (.ci 0), (.ci 0), (.ci 0), (.ci 0), (.ci 0), (.cb false), (.cb false), (.cb false), (.cb false), (.cb false), (.cb false), y7, y6, y4, (.ci 0), (.ci 0), (.cb false), (.ci 0), (.cb false), (.cb false), (.cb false), (.cb false), (.cb false), (.ite (.ib .gtr .i64 (.ite (.ib .lss .i64 (.ci 4096) y8) (.ci 4096) y8) (.ci 1)) (.ite (.ib .lss .i64 (.ci 4096) y8) (.ci 4096) y8) (.ci 1)), (.ite (.ib .gtr .i64 (.ite (.ib .lss .i64 (.ci 4096) y8) (.ci 4096) y8) (.ci 1)) (.ite (.ib .lss .i64 (.ci 4096) y8) (.ci 4096) y8) (.ci 1)), (.ci 0), (.ite (.ib .gtr .i64 (.ite (.ib .lss .i64 (.ci 4096) y8) (.ci 4096) y8) (.ci 1)) (.ite (.ib .lss .i64 (.ci 4096) y8) (.ci 4096) y8) (.ci 1)), (.ci 0), (.ci 0), (.cs []), y8, y8, (.cs []), y1, y2, y3, y4, y5, y6, y7, y8, (.ci 7), (.ci 1), (.cb false), (.ci 0), (.ci 0), (.cb false), (.ci 0), (.ci 0), (.cb false), (.ci 0), (.cb false), (.ci 0), (.ci 0), (.cs []), (.ci 0), (.cb false), (.ci 0), (.cb false), (.ci 0), (.ci 0), (.cs [])])
def sCp (i : Nat) : Option Tm := ([none, none, none, none, none, none, none, none, none, some (.ci 0), some xHV, some xHV, some (.cs []), some (.cs []), some (.cs []), some (.cs []), some (.cb false), some (.ci 0), some (.ci 0), some (.cb false), some (.ci 0), some (.ci 0), some (.cb false)] : List (Option Tm)).getD i none
def xIw : LpG := zP0 28 9 TCp FCp sCp (.exit 0)
def xIv : LpG := zP0 28 9 TCp FCr sCp .ret
def zXq (g : LpG) : Env := ⟨zBP xBQ, zWw fCp 7 g⟩
def zZz (g : LpG) : Tree AV := zCD Tryz.prog (zXq g) 1000 fCp [gCp, xEh] H0Cp fun v _ => .leaf v
abbrev zYs : Tm := (.ite (.ib .lss .i64 (.ci 4096) y8) (.ci 4096) y8)
abbrev zYm : Tm := (.ite (.ib .lss .i64 (.ci 255) y6) (.ci 255) y6)
abbrev xBC : Tm := (.and (.ib .leq .i64 (.ci 1) y8) (.ib .leq .i64 y8 (.ci 4096)))
set_option maxRecDepth 100000 in
theorem xIm : keyAt Tryz.prog fCp 7 0 = true := by kernel_rfl
theorem zQq {ρ : Rho} (hf : ρ.fn = fnC) : TabOK ρ xBQ := ⟨fun _ _ _ _ _ _ h ho => xBF (@zOQ ρ) h, zA6 hf zUt, TabOK.app (xBP hf) ⟨fun _ _ _ _ _ _ h ho => zP4 h, fun _ _ _ _ _ _ h ho => zWv h ho, fun _ _ _ _ _ _ h ho => zWu h ho, trivial⟩⟩
theorem zRH {ρ : Rho} (hf : ρ.fn = fnC) : @EnvOK ρ Tryz.prog zIg := zET (zQq hf)
theorem zOq {ρ : Rho} (hf : ρ.fn = fnC) {g : LpG} (h : GOk ρ fCp 0 g) : @EnvOK ρ Tryz.prog (zXq g) := zGR (fun f g' hg => zDB (zQq hf) f g' hg) xIm h
def xHz (x : Tree AV) : Tree AV := (.fork (.ib .gtr .i64 (.llen y0) (.ci 200)) (.leaf (.bool true)) (.fork (.ib .geq .i64 y3 (.ci 3)) (.fork (.ib .leq .i64 y3 (.ci 128)) (.fork (.ib .geq .i64 y4 (.ci 1)) (.fork (.ib .leq .i64 y4 (.ci 255)) (.fork (.ib .geq .i64 y5 (.ci 1)) (.fork (.ib .leq .i64 y5 (.ci 255)) (.fork (.ib .geq .i64 y6 (.ci 0)) (.fork (.ib .leq .i64 y6 (.ci 255)) (.fork (.ib .geq .i64 y7 (.ci 1)) (.fork (.ib .leq .i64 y7 (.ci 7)) (.fork (.ib .geq .i64 y8 (.ci 1)) (.fork (.ib .gtr .i64 y8 (.ci 4096)) (.leaf (.bool true)) (.fork xBC x .fail)) (.leaf (.bool true))) (.leaf (.bool true))) (.leaf (.bool true))) (.leaf (.bool true))) (.leaf (.bool true))) (.leaf (.bool true))) (.leaf (.bool true))) (.leaf (.bool true))) (.leaf (.bool true))) (.leaf (.bool true))) (.leaf (.bool true))))
def xJz (x : Tree AV) : Tree AV := (.fork (.ib .geq .i64 y3 (.ci 3)) (.fork (.ib .leq .i64 y3 (.ci 128)) (.fork (.ib .geq .i64 y4 (.ci 1)) (.fork (.ib .leq .i64 y4 (.ci 255)) (.fork (.ib .geq .i64 y5 (.ci 1)) (.fork (.ib .leq .i64 y5 (.ci 255)) (.fork (.ib .geq .i64 y6 (.ci 0)) (.fork (.ib .leq .i64 y6 (.ci 255)) (.fork (.ib .geq .i64 y7 (.ci 1)) (.fork (.ib .leq .i64 y7 (.ci 7)) (.fork (.ib .geq .i64 y8 (.ci 1)) (.fork (.ib .gtr .i64 y8 (.ci 4096)) (.leaf (.bool true)) (.fork xBC x .fail)) (.leaf (.bool true))) (.leaf (.bool true))) (.leaf (.bool true))) (.leaf (.bool true))) (.leaf (.bool true))) (.leaf (.bool true))) (.leaf (.bool true))) (.leaf (.bool true))) (.leaf (.bool true))) (.leaf (.bool true))) (.leaf (.bool true)))
set_option maxRecDepth 100000 in
theorem xDp : zZz xIw = xHz (.leaf (.bool true)) := by kernel_rfl
set_option maxRecDepth 100000 in
theorem xDm : zZz xIv = xHz (.leaf (.bool true)) := by kernel_rfl
set_option maxRecDepth 100000 in
theorem zZy : zZz dead = xHz .fail := by kernel_rfl
set_option maxRecDepth 100000 in
theorem zWG : (zCD Tryz.prog zIg 1000 fCp [gCp, .nilSlice] heap0 fun v _ => Tree.leaf v) = xJz (.leaf (.bool true)) := by kernel_rfl
structure RightC (g : List Dat) : Prop where
 a1 : 3 ≤ gI g 2
 a2 : gI g 2 ≤ 128
 b1 : 1 ≤ gI g 3
 b2 : gI g 3 ≤ 255
 c1 : 1 ≤ gI g 4
 c2 : gI g 4 ≤ 255
 d1 : 0 ≤ gI g 5
 d2 : gI g 5 ≤ 255
 e1 : 1 ≤ gI g 6
 e2 : gI g 6 ≤ 7
 f1 : 1 ≤ gI g 7
 f2 : gI g 7 ≤ 4096
section
variable {L : List (List Dat)} {g : List Dat} {i : Nat} {st : List Dat}
theorem zOL [Rho] : (Tree.leaf (AV.bool true)).ok := ⟨.cb true, rfl, rfl⟩
theorem zWH {x : Tree AV} (hx : RightC g → @Tree.ok (zAm L g i st) x) : @Tree.ok (zAm L g i st) (xJz x) := by
 letI ρ : Rho := zAm L g i st
 refine ⟨fun q1 => ⟨fun q2 => ⟨fun q3 => ⟨fun q4 => ⟨fun q5 => ⟨fun q6 => ⟨fun q7 => ⟨fun q8 => ⟨fun q9 => ⟨fun q10 => ⟨fun q11 => ⟨fun _ => zOL, fun q12 => ?_⟩, fun _ => zOL⟩, fun _ => zOL⟩, fun _ => zOL⟩, fun _ => zOL⟩, fun _ => zOL⟩, fun _ => zOL⟩, fun _ => zOL⟩, fun _ => zOL⟩, fun _ => zOL⟩, fun _ => zOL⟩, fun _ => zOL⟩;rw [zDF] at q1 q3 q5 q7 q9 q11;rw [zAS] at q2 q4 q6 q8 q10;rw [zAO] at q12;have hR : RightC g := ⟨q1.1, q2.1, q3.1, q4.1, q5.1, q6.1, q7.1, q8.1, q9.1, q10.1, q11.1, q12.1⟩;have hd : (@Tm.den ρ xBC).asB = true := by
  rw [zCL, zAS, zAS];exact ⟨⟨q11.1, q11.2⟩, q12.1, q12.2⟩
 exact ⟨fun _ => hx hR, fun q => absurd (hd.symm.trans q) (by simp)⟩
theorem zP9 {x : Tree AV} (hx : RightC g → L.length ≤ 200 → @Tree.ok (zAm L g i st) x) : @Tree.ok (zAm L g i st) (xHz x) := by
 letI ρ : Rho := zAm L g i st
 refine ⟨fun _ => zOL, fun q0 => ?_⟩;rw [zAO] at q0;have hl : L.length ≤ 200 := by
  have : (L.length : Int) ≤ 200 := q0.1;omega
 exact zWH fun hr => hx hr hl
def dZ (g : List Dat) : Dat := @Tm.den (zAm [] g 0 []) xHV
def stZ (g : List Dat) : List Dat := [dZ g, dZ g, .dS [], .dS [], .dS [], .dS [], .dB false, .dI 0, .dI 0, .dB false, .dI 0, .dI 0, .dB false]
def sZc (g : List Dat) : SSt := ⟨gI g 6, gI g 5, gI g 3, 0, 0, [], 0, 0, 0, 0, false, false, false, false, false, false, false, false, false, false, 0, 0⟩
theorem xJM (h : RightC g) : Rel 0 (zA5 (dZ g)).a (sZc g) :=
 { ek := rfl, en := rfl, et := rfl, k1 := h.e1, k7 := h.e2, n0 := h.d1, n2 := h.d2, t0 := h.b1, t2 := h.b2, va := rfl, vr := rfl, out := rfl, high := rfl, len := rfl, failed := rfl, busy := rfl, rejs := rfl, wants := rfl, pb := rfl, asks := rfl, due := rfl, final := rfl, reject := rfl, poll := rfl, tries := rfl, left := rfl,
   acked0 := Int.le_refl _, sent0 := Int.le_refl _, top0 := Int.le_refl _, len0 := Int.le_refl _, lenk := by have := h.e1; show (0 : Int) - 0 ≤ gI g 6; omega
   lenN := Int.le_refl _, got0 := Int.le_refl _, gotN := Int.le_refl _, aoff := Int.le_refl _, aL := Int.le_refl _, soff := Int.le_refl _, sL := Int.le_refl _, W := rfl, left0 := Int.le_refl _, left2 := by show (0 : Int) ≤ 255; omega
   tries0 := Int.le_refl _, tries2 := by have := h.d1; show (0 : Int) ≤ gI g 5 + 1; omega
   tries3 := fun _ => h.d1, fleft := fun _ => rfl }
theorem zYK {ρ : Rho} (h1 : 1 ≤ (ρ.val 8).asI) (h2 : (ρ.val 8).asI ≤ 4096) : (@Tm.den ρ (.ite (.ib .gtr .i64 zYs (.ci 1)) zYs (.ci 1))).asI = (ρ.val 8).asI := by
 have e : (@Tm.den ρ zYs).asI = (ρ.val 8).asI := by
  rw [zLr];split
  ·rename_i q;rw [zBw] at q;have : (4096 : Int) < (ρ.val 8).asI := q.1;omega
  ·rfl
 rw [zLr];split
 ·exact e
 ·rename_i q;have q' : (@Tm.den ρ (.ib .gtr .i64 zYs (.ci 1))).asB = false := by simpa using q
  rw [zAO, e] at q';have : (ρ.val 8).asI ≤ 1 := q'.1;show (1 : Int) = _;omega
theorem zZp {ρ : Rho} (h1 : 0 ≤ (ρ.val 6).asI) (h2 : (ρ.val 6).asI ≤ 255) : (@Tm.den ρ (.ite (.ib .gtr .i64 zYm (.ci 0)) zYm (.ci 0))).asI = (ρ.val 6).asI := by
 have e : (@Tm.den ρ zYm).asI = (ρ.val 6).asI := by
  rw [zLr];split
  ·rename_i q;rw [zBw] at q;have : (255 : Int) < (ρ.val 6).asI := q.1;omega
  ·rfl
 rw [zLr];split
 ·exact e
 ·rename_i q;have q' : (@Tm.den ρ (.ib .gtr .i64 zYm (.ci 0))).asB = false := by simpa using q
  rw [zAO, e] at q';have : (ρ.val 6).asI ≤ 0 := q'.1;show (0 : Int) = _;omega
theorem chZ (h : RightC g) : ChI 0 (gI g 2) (gI g 7) (gI g 6) (zA5 (dZ g)) (sZc g) [] (gI g 7 + 0) 0 := by
 have er : ∀ n, n = 29 ∨ n = 30 ∨ n = 32 → gI ((dZ g).asL.getD 0 []) n = gI g 7 := fun n hn => by
  have := zYK (ρ := zAm [] g 0 []) h.f1 h.f2;rcases hn with rfl | rfl | rfl <;> exact this
 have em : gI ((dZ g).asL.getD 0 []) 3 = gI g 5 := zZp (ρ := zAm [] g 0 []) h.d1 h.d2;have e1 : (zA5 (dZ g)).pn = gI g 7 := er 29 (by omega)
 have e2 : (zA5 (dZ g)).pm = gI g 7 := er 30 (by omega)
 have e3 : (zA5 (dZ g)).tm = gI g 7 := er 32 (by omega)
 have e4 : (zA5 (dZ g)).c.l.most = gI g 5 := em;have ep : zDU (0 : Int) 0 [] = [] := zZb;have r1 := h.f1; have r2 := h.f2; have n3 := h.a1; have m2 := h.d2; have t1 := h.b1; have t2 := h.b2;refine ⟨⟨rfl, rfl, rfl, e2, e3, rfl, rfl, rfl, n3, h.a2, r1, r2⟩, ⟨.inl ⟨rfl, rfl⟩, Int.le_refl _, ?_, ?_, Int.le_refl _, ?_, t1, t2, rfl, .inl rfl, .inl rfl⟩, ⟨false, [], ⟨xJM h, Int.le_refl _, Int.le_refl _, Int.le_refl _, ?_, ?_, ?_, Int.le_refl _, ?_, rfl, rfl, fun q => absurd rfl q, ?_, ?_, ?_, ?_, rfl⟩, ⟨[], rfl⟩, fun _ => ⟨rfl, rfl⟩⟩, fun _ => rfl, fun _ => ⟨rfl, rfl⟩, rfl, ?_⟩
 ·show (0 : Int) ≤ 255;omega
 ·rw [e4]; exact m2
 ·show (0 : Int) ≤ 255;omega
 ·show (0 : Int) ≤ gI g 7;omega
 ·rw [e1]; omega
 ·rw [e1]; omega
 ·show (0 : Int) ≤ gI g 7;omega
 ·intro i hi;have hi : i ∈ zBf (sZc g) ++ zDU (0 : Int) 0 [] := hi;rw [ep] at hi;cases hi
 ·intro i hi; cases hi
 ·intro i hi;have hi : i ∈ zDU (0 : Int) 0 [] := hi;rw [ep] at hi;cases hi
 ·show (zA5 (dZ g)).pn + (0 : Int) + 0 ≤ gI g 7 + 0;rw [e1]; omega
 ·show (0 : Int) + 0 ≤ gI g 7;omega
theorem xJL (h : RightC g) : SOK g 0 (stZ g) := by
 have hc := chZ h;have hh : Half 0 (gI g 2) (gI g 7) (gI g 6) (zA5 (dZ g)) (sZc g) [] (zA5 (dZ g)) (sZc g) [] [] := ⟨hc, ⟨Int.le_refl _, Int.le_refl _⟩, rfl, rfl⟩;have hl : LokC 0 0 0 [] := ⟨Int.le_refl _, Int.le_refl _, Int.le_refl _, Int.le_refl _⟩;exact ⟨⟨sZc g, sZc g, hh, hh⟩, rfl, hl, hl, Nat.le_refl _, Nat.le_refl _⟩
def xAl (L : List (List Dat)) : Prop := ∀ i, i < L.length → 0 ≤ gI (L.getD i []) 0
theorem zOf (p : List Dat → Bool) : ∀ L : List (List Dat), ∃ N, N ≤ L.length ∧ (∀ i, i < N → p (L.getD i []) = false) ∧ (N < L.length → p (L.getD N []) = true)
 | [] => ⟨0, Nat.le_refl _, fun i hi => by omega, fun h => by simp at h⟩
 | r :: L => by
  cases hr : p r with
  | true => exact ⟨0, Nat.zero_le _, fun i hi => by omega, fun _ => hr⟩
  | false =>
   obtain ⟨N, h1, h2, h3⟩ := zOf p L;refine ⟨N + 1, by simpa using h1, fun i hi => ?_, fun h => h3 (by simpa using h)⟩
   cases i with
   | zero => exact hr
   | succ i => exact h2 i (by omega)
def xEA (r : List Dat) : Bool := decide (40 < (gS r 4).length)
def opN (r : List Dat) : Nat := (gI r 0 % 14).toNat
def xEx (L : List (List Dat)) (N i : Nat) : List (Tm × Bool) := if i < N then pcC (gB (L.getD i []) 1) (opN (L.getD i [])) else if N < L.length then [(inT, true), (xH1, true), (xE9, true)] else [(inT, false)]
def TAt (L : List (List Dat)) (N i : Nat) : St := zME (xEx L N i)
theorem zXr : (@Tm.den (zAm L g i st) inT).asB = decide ((i : Int) < (L.length : Int)) := rfl
theorem zXs (h : i < L.length) : (@Tm.den (zAm L g i st) xH1).asB = true := by
 show (decide ((0 : Int) ≤ (i : Int)) && decide ((i : Int) < (L.length : Int))) = true;rw [decide_eq_true (show (0 : Int) ≤ (i : Int) by omega), decide_eq_true (show (i : Int) < (L.length : Int) by omega)]; rfl
theorem zPP (j : Nat) : @Tm.den (zAm L g i st) (.lget y0 y9 j) = gD (L.getD i []) j := by
 show ((L.getD ((i : Int)).toNat []).getD j (.dI 0)) = _;rw [Int.toNat_natCast]
theorem zXt : (@Tm.den (zAm L g i st) xE9).asB = xEA (L.getD i []) := by
 show decide (((@Tm.den (zAm L g i st) (.lget y0 y9 4)).asS.length : Int) > 40) = _;rw [zPP];unfold xEA;show decide (((gS (L.getD i []) 4).length : Int) > 40) = _;rw [Bool.eq_iff_iff, decide_eq_true_eq, decide_eq_true_eq];omega
theorem xGq (h : 0 ≤ gI (L.getD i []) 0) (k : Nat) (hk : k < 14) : (@Tm.den (zAm L g i st) (opT k)).asB = Nat.beq k (opN (L.getD i [])) := by
 show ((@Tm.den (zAm L g i st) (.lget y0 y9 0)).asI.tmod 14 == (k : Int)) = _;rw [zPP];show ((gI (L.getD i []) 0).tmod 14 == (k : Int)) = _;rw [Int.tmod_eq_emod_of_nonneg h];unfold opN;generalize gI (L.getD i []) 0 = x at h;rw [Bool.eq_iff_iff];constructor
 ·intro q;have e : x % 14 = (k : Int) := by simpa using q
  rw [show (x % 14).toNat = k by omega]
  simp
 ·intro q;have e1 := Nat.eq_of_beq_eq_true q;have e : x % 14 = (k : Int) := by omega
  simp [e]
theorem xFG (r : List Dat) : opN r < 14 := by unfold opN; omega
theorem xHY (hL : xAl L) {N : Nat} (h1 : N ≤ L.length) (h2 : ∀ i, i < N → xEA (L.getD i []) = false) (h3 : N < L.length → xEA (L.getD N []) = true) (hi : i ≤ N) : @PC (zAm L g i st) (TAt L N i).H := by
 intro p hp;have hp : p ∈ xEx L N i := hp;unfold xEx at hp;split at hp
 ·rename_i hlt;have hl : i < L.length := by omega
  unfold pcC at hp;rcases List.mem_cons.1 hp with rfl | hp
  ·show (@Tm.den (zAm L g i st) inT).asB = true;rw [zXr]; exact decide_eq_true (by omega)
  rcases List.mem_cons.1 hp with rfl | hp
  ·exact zXs hl
  rcases List.mem_cons.1 hp with rfl | hp
  ·show (@Tm.den (zAm L g i st) xE9).asB = false;rw [zXt]; exact h2 i hlt
  rcases List.mem_cons.1 hp with rfl | hp
  ·show (@Tm.den (zAm L g i st) (.lget y0 y9 1)).asB = _;rw [zPP];rfl
  ·unfold xFE at hp;obtain ⟨k, hk, rfl⟩ := List.mem_map.1 hp;exact xGq (hL i hl) k (by have := List.mem_range.1 hk; omega)
 ·rename_i hge;have hiN : i = N := by omega
  subst hiN;split at hp
  ·rename_i hl;rcases List.mem_cons.1 hp with rfl | hp
   ·show (@Tm.den (zAm L g i st) inT).asB = true;rw [zXr]; exact decide_eq_true (by omega)
   rcases List.mem_cons.1 hp with rfl | hp
   ·exact zXs hl
   rcases List.mem_cons.1 hp with rfl | hp
   ·show (@Tm.den (zAm L g i st) xE9).asB = true;rw [zXt]; exact h3 hl
   ·cases hp
  ·rename_i hl;rcases List.mem_cons.1 hp with rfl | hp
   ·show (@Tm.den (zAm L g i st) inT).asB = false;rw [zXr]; exact decide_eq_false (by omega)
   ·cases hp
theorem zWf (pc : List (Tm × Bool)) (F : St) : zGF 28 9 (zME pc) F = zGF 28 9 TCp F := rfl
set_option maxRecDepth 100000 in
theorem zYI : zA9 Tryz.prog (zCD Tryz.prog zIg 1000) (fun _ => none) 1000000 (zCB Tryz.prog fCp 0) (zME [(inT, false)]) (zGF 28 9 TCp FCp) = .leaf (.exit 0, some []) := by kernel_rfl
set_option maxRecDepth 100000 in
theorem zYD : zA9 Tryz.prog (zCD Tryz.prog zIg 1000) (fun _ => none) 1000000 (zCB Tryz.prog fCp 0) (zME [(inT, true), (xH1, true), (xE9, true)]) (zGF 28 9 TCp FCr) = .leaf (.ret, some []) := by kernel_rfl
theorem zYJ (h : SOK g i st) (hi : i ≤ 300) (b : Bool) (c : Nat) (hc : c < 14) (hd : (gS (L.getD i []) 4).length ≤ 40) : NxP (zAm L g i st) (IPc L g (i + 1)) (zF9 b c) := by
 cases b with
 | false =>
  match c, hc with
  | 0, _ => (rw [xCF]; exact xGN h hi)
  | 1, _ => (rw [xCC]; exact xGM h hi)
  | 2, _ => (rw [xCB]; exact xB2 h hi hd)
  | 3, _ => (rw [xCA]; exact xGL h hi hd)
  | 4, _ => (rw [xC9]; exact xB1 h hi)
  | 5, _ => (rw [xC8]; exact xGK h hi)
  | 6, _ => (rw [xC7]; exact zXS h hi)
  | 7, _ => (rw [xC6]; exact xGJ h hi)
  | 8, _ => (rw [xC5]; exact xGI h hi)
  | 9, _ => (rw [xC4]; exact zXR h hi)
  | 10, _ => (rw [zYH]; exact xEc h hi)
  | 11, _ => (rw [zYG]; exact xEb h hi)
  | 12, _ => (rw [zYF]; exact xEa h hi)
  | 13, _ => (rw [zYE]; exact xDZ h hi)
 | true =>
  match c, hc with
  | 0, _ => (rw [xCy]; exact xGB h hi)
  | 1, _ => (rw [xCv]; exact xGA h hi)
  | 2, _ => (rw [xCu]; exact xBz h hi hd)
  | 3, _ => (rw [xCt]; exact xG9 h hi hd)
  | 4, _ => (rw [xCs]; exact xBy h hi)
  | 5, _ => (rw [xCr]; exact xG8 h hi)
  | 6, _ => (rw [xCq]; exact zXE h hi)
  | 7, _ => (rw [xCp]; exact xG7 h hi)
  | 8, _ => (rw [xCo]; exact xG6 h hi)
  | 9, _ => (rw [xCn]; exact zXD h hi)
  | 10, _ => (rw [zYC]; exact xDW h hi)
  | 11, _ => (rw [zYB]; exact xDV h hi)
  | 12, _ => (rw [zYA]; exact xDU h hi)
  | 13, _ => (rw [zY5]; exact xDT h hi)
theorem xFV {i' : Nat} {st' : List Dat} : Low 9 (zAm L g i st) (zAm L g i' st') := ⟨fun n hn => by
 match n, hn with
 | 0, _ | 1, _ | 2, _ | 3, _ | 4, _ | 5, _ | 6, _ | 7, _ | 8, _ => rfl, rfl⟩
theorem xFa (hl : st.length = 13) (n : Nat) : (zAm L g 0 (stZ g)).val n = match sCp n with
   | some t => @Tm.den (zAm L g i st) t
   | none => (zAm L g i st).val n := by
 match n with
 | 0 | 1 | 2 | 3 | 4 | 5 | 6 | 7 | 8 => rfl
 | 9 => rfl
 | 10 => (show _ = _; kernel_rfl)
 | 11 => (show _ = _; kernel_rfl)
 | 12 | 13 | 14 | 15 | 16 | 17 | 18 | 19 | 20 | 21 | 22 => rfl
 | n + 23 =>
  have b : ∀ m : Nat, m ≤ 23 → Nat.blt (n + 23) m = false := fun m hm => by
   rw [Bool.eq_false_iff]; intro h; rw [Nat.blt_eq] at h; omega
  show (bif Nat.blt (n + 23) 1 then _ else bif Nat.blt (n + 23) 9 then _ else bif Nat.blt (n + 23) 10 then _ else gD (stZ g) (n + 23 - 10)) = (bif Nat.blt (n + 23) 1 then _ else bif Nat.blt (n + 23) 9 then _ else bif Nat.blt (n + 23) 10 then _ else gD st (n + 23 - 10))
  simp only [b 1 (by omega), b 9 (by omega), b 10 (by omega), cond_false]
  unfold gD;rw [List.getD_eq_getElem?_getD, List.getD_eq_getElem?_getD, List.getElem?_eq_none (by show 13 ≤ n + 23 - 10; omega), List.getElem?_eq_none (by omega)]
theorem xGg (hL : xAl L) (hN : L.length ≤ 200) (h : RightC g) : ∃ (gl : LpG) (i : Nat) (st : List Dat), (gl = xIw ∨ gl = xIv) ∧ GOk (zAm L g i st) fCp 0 gl := by
 obtain ⟨N, n1, n2, n3⟩ := zOf xEA L;have hstep : ∀ i, i < N → ∀ ρ, IPc L g i ρ → NxP ρ (IPc L g (i + 1)) (zA9 Tryz.prog (zCD Tryz.prog zIg 1000) (fun _ => none) 1000000 (zCB Tryz.prog fCp 0) (TAt L N i) (zGF 28 9 (TAt L N (i + 1)) FCp)) := fun i hi ρ hI => by
  obtain ⟨st, rfl, hl, hs⟩ := hI;have hb := n2 i hi;unfold xEA at hb;have hd : (gS (L.getD i []) 4).length ≤ 40 := by
   have := of_decide_eq_false hb;omega
  have e : zA9 Tryz.prog (zCD Tryz.prog zIg 1000) (fun _ => none) 1000000 (zCB Tryz.prog fCp 0) (TAt L N i) (zGF 28 9 (TAt L N (i + 1)) FCp) = zF9 (gB (L.getD i []) 1) (opN (L.getD i [])) := by
   unfold TAt zF9;rw [zWf];unfold xEx;rw [if_pos hi]
  rw [e];exact zYJ hs (by omega) _ _ (xFG _) hd
 have hpc : ∀ i, i ≤ N → ∀ ρ, IPc L g i ρ → @PC ρ (TAt L N i).H := fun i hi ρ hI => by
  obtain ⟨st, rfl, hl, hs⟩ := hI;exact xHY hL n1 n2 n3 hi
 have henv : ∀ i ρ, IPc L g i ρ → @EnvOK ρ Tryz.prog zIg := fun i ρ hI => by
  obtain ⟨st, rfl, hl, hs⟩ := hI;exact zRH rfl
 have hlow : ∀ i ρ, IPc L g i ρ → Low 9 (zAm L g 0 (stZ g)) ρ := fun i ρ hI => by
  obtain ⟨st, rfl, hl, hs⟩ := hI;exact xFV
 have hsig : ∀ ρ, IPc L g N ρ → ∀ n, (zAm L g 0 (stZ g)).val n = match sCp n with
   | some t => @Tm.den ρ t
   | none => ρ.val n := fun ρ hI n => by
  obtain ⟨st, rfl, hl, hs⟩ := hI;exact xFa hl n
 have h0 : IPc L g 0 (zAm L g 0 (stZ g)) := ⟨_, rfl, rfl, xJL h⟩;have eQ : ∀ (F : St) (x : AX), zP0 28 9 (TAt L N 0) F sCp x = zP0 28 9 TCp F sCp x := fun F x => rfl;by_cases hlt : N < L.length
 ·obtain ⟨ρ, hI, hg⟩ := xBd (F := FCr) (F' := FCp) (x := .ret) (env := zIg) (σ := sCp) (TAt L N) N (IPc L g) (zAm L g 0 (stZ g)) h0 (by simp) hpc henv hlow hstep (fun ρ hI => by
   refine ⟨[], ?_, trivial⟩;have e : zA9 Tryz.prog (zCD Tryz.prog zIg 1000) (fun _ => none) 1000000 (zCB Tryz.prog fCp 0) (TAt L N N) (zGF 28 9 (TAt L N (N + 1)) FCr) = .leaf (.ret, some []) := by
    unfold TAt;rw [zWf];unfold xEx;rw [if_neg (Nat.lt_irrefl _), if_pos hlt];exact zYD
   rw [e]; rfl) hsig
  obtain ⟨st, rfl, hl, hs⟩ := hI;rw [eQ] at hg;exact ⟨xIv, N, st, .inr rfl, hg⟩
 ·obtain ⟨ρ, hI, hg⟩ := xBd (F := FCp) (F' := FCp) (x := .exit 0) (env := zIg) (σ := sCp) (TAt L N) N (IPc L g) (zAm L g 0 (stZ g)) h0 (by simp) hpc henv hlow hstep (fun ρ hI => by
   refine ⟨[], ?_, trivial⟩;have e : zA9 Tryz.prog (zCD Tryz.prog zIg 1000) (fun _ => none) 1000000 (zCB Tryz.prog fCp 0) (TAt L N N) (zGF 28 9 (TAt L N (N + 1)) FCp) = .leaf (.exit 0, some []) := by
    unfold TAt;rw [zWf];unfold xEx;rw [if_neg (Nat.lt_irrefl _), if_neg hlt];exact zYI
   rw [e]; rfl) hsig
  obtain ⟨st, rfl, hl, hs⟩ := hI;rw [eQ] at hg;exact ⟨xIw, N, st, .inl rfl, hg⟩
theorem xFY (hL : xAl L) : ∃ (i : Nat) (st : List Dat) (gl : LpG), @EnvOK (zAm L g i st) Tryz.prog (zXq gl) ∧ @Tree.ok (zAm L g i st) (zZz gl) := by
 by_cases h : L.length ≤ 200 ∧ RightC g
 ·obtain ⟨gl, i, st, hgl, hg⟩ := xGg hL h.1 h.2;refine ⟨i, st, gl, zOq rfl hg, ?_⟩;rcases hgl with rfl | rfl
  ·rw [xDp]; exact zP9 fun _ _ => @zOL (zAm L g i st)
  ·rw [xDm]; exact zP9 fun _ _ => @zOL (zAm L g i st)
 ·refine ⟨0, [], dead, zOq rfl (xDN _ _ _), ?_⟩;rw [zZy];exact zP9 fun hr hl => absurd ⟨hl, hr⟩ h
end
set_option maxRecDepth 100000 in
theorem zMz (ini adv : Bool) (n1 t1 t2 n2 k room : Int) (v : Value) (w : World) (h : v = .slice none 0 0 ∨ ∃ a len cap rows, v = .slice (some a) len cap ∧ len ≤ maxLen ∧ SliceAt w a len cap shSt rows) :
  Calls Tryz.prog 5 #[.agg #[.bool ini, .bool adv, .int .i64 n1, .int .i64 t1, .int .i64 t2, .int .i64 n2, .int .i64 k, .int .i64 room], v] w fun e w' => e = .returned (.bool true) ∧ RowKit.Below w.heap.size w w' := by
 generalize hG : ([.dB ini, .dB adv, .dI n1, .dI t1, .dI t2, .dI n2, .dI k, .dI room] : List Dat) = g;have hg : ∀ (L : List (List Dat)) (i : Nat) (st : List Dat) (μ : Mu), @VR (zAm L g i st) μ gCp (.agg #[.bool ini, .bool adv, .int .i64 n1, .int .i64 t1, .int .i64 t2, .int .i64 n2, .int .i64 k, .int .i64 room]) := fun L i st μ => by
  subst hG;exact ⟨[.bool ini, .bool adv, .int .i64 n1, .int .i64 t1, .int .i64 t2, .int .i64 n2, .int .i64 k, .int .i64 room], ⟨_, _, rfl, ⟨_, _, rfl, ⟨_, _, rfl, ⟨_, _, rfl, ⟨_, _, rfl, ⟨_, _, rfl, ⟨_, _, rfl, ⟨_, _, rfl, rfl, rfl⟩, rfl⟩, rfl⟩, rfl⟩, rfl⟩, rfl⟩, rfl⟩, rfl⟩, rfl⟩
 rcases h with rfl | ⟨a, len, cap, L, rfl, hmx, hs⟩
 ·letI ρ : Rho := zAm [] g 0 []
  refine zO5 (zC5 zCq (zRH (ρ := ρ) rfl) 1000) (args := [gCp, .nilSlice]) ?_ (cargs := [.agg #[.bool ini, .bool adv, .int .i64 n1, .int .i64 t1, .int .i64 t2, .int .i64 n2, .int .i64 k, .int .i64 room], .slice none 0 0]) ⟨_, _, hg _ _ _ _, ⟨_, _, rfl, rfl, rfl⟩, rfl⟩ w;have e := zWG;rw [e];exact zWH fun _ => zOL
 ·have hR : xAl L := fun i hi => by
   rw [hs.n] at hi;obtain ⟨n, h1, h2⟩ := hs.ok i hi 0 _ rfl;unfold gI;rw [h1];simp [Lit.wf, IntKind.min, IntKind.max, IntKind.signed, IntKind.bits] at h2;show 0 ≤ n;omega
  obtain ⟨i, st, gl, hE, hT⟩ := xFY (g := g) hR
  letI ρ : Rho := zAm L g i st
  have ht : y0.den.asL = L := rfl;have hm : (fun id => if id = 0 then some (⟨a.block, a.off, cap, shSt.length, len * shSt.length, false⟩ : Loc) else none) 0 = some ⟨a.block, a.off, cap, shSt.length, len * shSt.length, false⟩ := rfl
  have hobj : ∀ id o, H0Cp.get id = some o → id = 0 ∧ o = .seq shSt y0 false := fun id o hg => by
   have hg' : look [(0, AObj.seq shSt y0 false)] id = some o := hg;rw [zAH] at hg';split at hg'
   ·rename_i e; cases hg'; exact ⟨e, rfl⟩
   ·cases hg'
  refine zO4 (zC5 zCq hE 1000) (args := [gCp, xEh]) (H := H0Cp) rfl (fun id o hg => ?_) hT (μ := fun id => if id = 0 then some (⟨a.block, a.off, cap, shSt.length, len * shSt.length, false⟩ : Loc) else none) (cargs := [.agg #[.bool ini, .bool adv, .int .i64 n1, .int .i64 t1, .int .i64 t2, .int .i64 n2, .int .i64 k, .int .i64 room], .slice (some a) len cap]) ?_ ⟨fun id o hg => ?_, fun i j oi oj li lj h1 h2 hij _ _ _ => ?_⟩ (fun id hid => ?_)
  ·obtain ⟨_, rfl⟩ := hobj id o hg; rfl
  ·exact ⟨_, _, hg _ _ _ _, ⟨_, _, hs.val (by decide) ht hm, rfl, rfl⟩, rfl⟩
  ·obtain ⟨rfl, rfl⟩ := hobj id o hg;exact hs.rep ht hm
  ·obtain ⟨rfl, _⟩ := hobj i oi h1;obtain ⟨rfl, _⟩ := hobj j oj h2;exact absurd rfl hij
  ·have : id ≠ 0 := by
    have h1 : 1 ≤ id := hid;omega
   exact if_neg this
end
end Go.Proofs.YtenkabjkgngcdaaGreat.Ab
namespace Go.Proofs.YtenkabjkgngcdaaGreat
open Go Go.Proofs.YtenkabjkgngcdaaGreat.Ab
theorem zIh (ini adv : Bool) (n1 : Int) (_ : (Lit.int .i64 n1).wf = true) (t1 : Int) (_ : (Lit.int .i64 t1).wf = true) (t2 : Int) (_ : (Lit.int .i64 t2).wf = true) (n2 : Int) (_ : (Lit.int .i64 n2).wf = true) (k : Int) (_ : (Lit.int .i64 k).wf = true) (room : Int) (_ : (Lit.int .i64 room).wf = true) (v : Value) (w : World) (h : v = .slice none 0 0 ∨ ∃ a len cap rows, v = .slice (some a) len cap ∧ len ≤ maxLen ∧ SliceAt w a len cap shSt rows) :
  Calls Tryz.prog 5 #[.agg #[.bool ini, .bool adv, .int .i64 n1, .int .i64 t1, .int .i64 t2, .int .i64 n2, .int .i64 k, .int .i64 room], v] w fun e w' => e = .returned (.bool true) ∧ RowKit.Below w.heap.size w w' := zMz ini adv n1 t1 t2 n2 k room v w h
end Go.Proofs.YtenkabjkgngcdaaGreat
