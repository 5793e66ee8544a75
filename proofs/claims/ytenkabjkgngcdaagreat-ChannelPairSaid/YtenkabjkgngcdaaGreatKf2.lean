import Derived.Test.YtenkabjkgngcdaaGreatKd8
import Derived.Test.YtenkabjkgngcdaaGreatKd9
import Derived.Test.YtenkabjkgngcdaaGreatKe0
import Derived.Test.YtenkabjkgngcdaaGreatKe1
import Derived.Test.YtenkabjkgngcdaaGreatKf1
import Derived.Test.YtenkabjkgngcdaaGreatKb6
set_option linter.unusedVariables false
set_option linter.unusedSimpArgs false
set_option linter.unusedSectionVars false
namespace Go.Proofs.YtenkabjkgngcdaaGreat.Ab
open Go
set_option maxRecDepth 100000
noncomputable section
attribute [local irreducible] fnC
abbrev zSz : Tm := (tp [y11, (.lget y19 y17 0), (.lget y19 y17 1), (.lget y19 y17 2), (.lget y19 y17 3), (.lget y19 y17 4), (.lget y19 y17 5), (.lget y19 y17 6)])
abbrev zSy : Tm := (tp [y10, (.lget y22 y20 0), (.lget y22 y20 1), (.lget y22 y20 2), (.lget y22 y20 3), (.lget y22 y20 4), (.lget y22 y20 5), (.lget y22 y20 6)])
abbrev zFr : Tm := (.wrap .i64 (.lget y0 y9 3))
abbrev zI2 : Tm := (tp [y11, (.not (.lget y0 y9 2))])
abbrev zIy : Tm := (tp [y10, (.not (.lget y0 y9 2))])
abbrev zOS : Tm := (.lapp (.lcut y22 y20 y21) (.row zMO))
abbrev zOR : Tm := (.lapp (.lcut y19 y17 y18) (.row zMR))
abbrev zTH : Tm := (.cut (.lget y0 y9 4) (.ci 0) zGc)
abbrev zTD : Tm := (.cut (.lget y0 y9 4) (.ci 0) zGe)
abbrev zSw : Tm := (tp [y11, (.lget y0 y9 4)])
abbrev zKq : Tm := (tp [y10, (.lget y0 y9 4)])
abbrev zTJ : Tm := (.app 4289 (tp [y11, zFr]))
abbrev zTI : Tm := (.app 4289 (tp [y10, zFr]))
theorem zGf {o n : Int} {L : List (List Dat)} {i : Nat} (h : LokC i o n L) (h0 : 0 < n) : LokC i (o + 1) (n - 1) L ∧ zBE L o n = L.getD o.toNat [] :: zBE L (o + 1) (n - 1) := by
 have a := h.ho; have b := h.hn; have c := h.le; have d := h.nN;refine ⟨⟨by omega, by omega, by omega, by omega⟩, ?_⟩
 unfold zBE;have hl : o.toNat < L.length := by omega
 rw [List.drop_eq_getElem_cons hl, show n.toNat = (n - 1).toNat + 1 by omega, List.take_succ_cons, show (o + 1).toNat = o.toNat + 1 by omega, List.getD_eq_getElem?_getD, List.getElem?_eq_getElem hl]
 rfl
theorem zUo {o n : Int} {L : List (List Dat)} {i : Nat} (h : LokC i o n L) : ((zBE L o n).length : Int) = n := by
 have a := h.ho; have b := h.hn; have c := h.le;unfold zBE;rw [List.length_take, List.length_drop]; omega
theorem zMS (M : List (List Dat)) : zBE M 0 (M.length : Int) = M := by
 unfold zBE;rw [show ((0 : Int)).toNat = 0 from rfl, List.drop_zero, Int.toNat_natCast, List.take_length]
theorem LokC.up {i : Nat} {o n : Int} {L : List (List Dat)} (h : LokC i o n L) : LokC (i + 1) o n L := ⟨h.ho, h.hn, h.le, by have := h.nN; omega⟩
theorem LokC.add {i : Nat} {o n : Int} {L : List (List Dat)} (h : LokC i o n L) (r : List Dat) : LokC (i + 1) 0 ((zBE L o n ++ [r]).length : Int) (zBE L o n ++ [r]) := by
 have e := zUo h;have := h.nN; have := h.hn;refine ⟨Int.le_refl _, by omega, by omega, ?_⟩
 rw [List.length_append]; simp; omega
theorem PI.okH {N n1 room k : Int} {cA cB : CSt} {sA sB : SSt} {wA wB rA rB : List UInt8} {lA lB : List (List Dat)} {r : List Dat} (h : PI N n1 room k cA cB sA sB wA wB rA rB (r :: lA) lB) : okH cB (zC7 r 0) := by
 have rel := h.2.ch.rel;have f := (h.1.ln.1).2;have e0 := rel.out; have e1 := rel.len; have e2 := rel.lenk; have e3 := rel.k7; have e4 := rel.sent0; have e5 := rel.top0; have e6 := rel.len0; have e7 := rel.high;have := h.1.ch.cg.n128;exact ⟨by omega, by omega, by omega, by omega, by omega, by omega⟩
theorem Half.okT {N n1 room k : Int} {cA cB : CSt} {sA sB : SSt} {wA rB : List UInt8} {lA : List (List Dat)} (h : Half N n1 room k cA sA wA cB sB rB lA) : okT cA := by
 have rel := h.ch.rel;have lk := h.ch.lk;have e1 := rel.tries0; have e2 := rel.tries2; have e3 := rel.n2; have e4 := rel.left0; have e5 := rel.left2; have e6 := lk.tr0; have e7 := lk.tr1;exact ⟨by omega, by omega, by omega, by omega, by omega, by omega⟩
theorem zWr (d a : Dat) : [fnC 4481 (x2 d a), fnC 4482 (x2 d a), fnC 4483 (x2 d a), fnC 4484 (x2 d a), fnC 4485 (x2 d a), fnC 4486 (x2 d a), fnC 4487 (x2 d a)] = frD ((zA5 d).nextR a.asB).1 := by kernel_rfl
section
variable {L : List (List Dat)} {g : List Dat} {i : Nat} {st : List Dat}
theorem zLr {ρ : Rho} (c x y : Tm) : (@Tm.den ρ (.ite c x y)).asI = if (@Tm.den ρ c).asB = true then (@Tm.den ρ x).asI else (@Tm.den ρ y).asI := by
 rw [zPS];cases (@Tm.den ρ c).asB with
 | true => rfl
 | false => rfl
theorem zSf {ρ : Rho} {n s : Tm} (h0 : 0 ≤ (@Tm.den ρ n).asI) (h1 : (@Tm.den ρ n).asI ≤ ((@Tm.den ρ s).asS.length : Int)) : (@Tm.den ρ (.ite (.ib .lss .i64 (.len s) (.ite (.ib .gtr .i64 (.ci 0) n) (.ci 0) n)) (.len s) (.ite (.ib .gtr .i64 (.ci 0) n) (.ci 0) n))).asI = (@Tm.den ρ n).asI := by
 have e : (@Tm.den ρ (.ite (.ib .gtr .i64 (.ci 0) n) (.ci 0) n)).asI = (@Tm.den ρ n).asI := by
  rw [zLr];split
  ·rename_i h;rw [zAT] at h;have : (@Tm.den ρ n).asI < 0 := h.1;omega
  ·rfl
 rw [zLr];split
 ·rename_i h;rw [zBw, e] at h;have : ((@Tm.den ρ s).asS.length : Int) < (@Tm.den ρ n).asI := h.1;omega
 ·exact e
theorem xGN (h : SOK g i st) (hi : i ≤ 300) : NxP (zAm L g i st) (IPc L g (i + 1)) xHU := by
 obtain ⟨sA, sB, hp0⟩ := h.pi;have hp := hp0;unfold xHU;refine npT (show (fnC 4098 (x1 (gD st 0))).asB = true from zRW _) (zAA hi ?_)
 exact zCT (hp.open_) (by omega) (zRS _) (rfl) (rfl) (rfl) (rfl) (rfl) (rfl) (rfl) (h.bad) (h.l0.up) (h.l1.up) ((by have := h.w0; show (gS st 2).length ≤ _; omega)) ((by have := h.w1; show (gS st 3).length ≤ _; omega))
theorem xGM (h : SOK g i st) (hi : i ≤ 300) : NxP (zAm L g i st) (IPc L g (i + 1)) xHT := by
 obtain ⟨sA, sB, hp0⟩ := h.pi;have hp := hp0;unfold xHT;refine npC (fun _ => npT (show (fnC 4162 (x1 (gD st 0))).asB = true from zOx _) (zAA hi ?_)) (fun _ => zAA hi ?_)
 ·exact zCT (hp.close) (by omega) (zOv _) (rfl) (rfl) (rfl) (rfl) (rfl) (rfl) (rfl) (h.bad) (h.l0.up) (h.l1.up) ((by have := h.w0; show (gS st 2).length ≤ _; omega)) ((by have := h.w1; show (gS st 3).length ≤ _; omega))
 ·exact zCT hp0 (by omega) rfl rfl rfl rfl rfl rfl rfl rfl h.bad h.l0.up h.l1.up (by have := h.w0; show (gS st 2).length ≤ _; omega) (by have := h.w1; show (gS st 3).length ≤ _; omega)
theorem xB2 (h : SOK g i st) (hi : i ≤ 300) (hd : (gS (L.getD i []) 4).length ≤ 40) : NxP (zAm L g i st) (IPc L g (i + 1)) xHS := by
 obtain ⟨sA, sB, hp0⟩ := h.pi;have hp := hp0;unfold xHS;have hdat : @Tm.den (zAm L g i st) (.lget y0 y9 4) = gD (L.getD i []) 4 := by
  show ((L.getD ((i : Int)).toNat []).getD 4 (.dI 0)) = _;rw [Int.toNat_natCast]
 obtain ⟨⟨s', hw⟩, n0, n1⟩ := hp.write (gS (L.getD i []) 4);have hx : @Tm.den (zAm L g i st) zKq = x2 (gD st 0) (gD (L.getD i []) 4) := by
  show Dat.dP _ (.dP (@Tm.den (zAm L g i st) (.lget y0 y9 4)) _) = _;rw [hdat]; rfl
 have en : (@Tm.den (zAm L g i st) (.app 4225 zKq)).asI = ((zA5 (gD st 0)).write (gS (L.getD i []) 4)).1 := by
  show (fnC 4225 (@Tm.den (zAm L g i st) zKq)).asI = _;rw [hx]; exact zLl _ _
 have el : (@Tm.den (zAm L g i st) (.lget y0 y9 4)).asS = gS (L.getD i []) 4 := by rw [hdat]; rfl
 have ec : (@Tm.den (zAm L g i st) zGe).asI = ((zA5 (gD st 0)).write (gS (L.getD i []) 4)).1 := (zSf (by rw [en]; exact n0) (by rw [en, el]; exact n1)).trans en
 have ecut : (@Tm.den (zAm L g i st) zTD).asS = (gS (L.getD i []) 4).take ((zA5 (gD st 0)).write (gS (L.getD i []) 4)).1.toNat := by
  show zBl (@Tm.den (zAm L g i st) (.lget y0 y9 4)).asS 0 (@Tm.den (zAm L g i st) zGe).asI = _;rw [ec, el, zCZ]
 have hl := h.w0;have lcut : ((gS (L.getD i []) 4).take ((zA5 (gD st 0)).write (gS (L.getD i []) 4)).1.toNat).length ≤ 40 := by rw [List.length_take]; omega
 refine npT (by show (fnC 4227 (@Tm.den (zAm L g i st) zKq)).asB = true; rw [hx]; exact zOw _ _) (npT ?_ (npT ?_ (zAA hi ?_)))
 ·rw [show xAC = .and (.ib .leq .i64 (.ci 0) zGe) (.ib .leq .i64 zGe (.len (.lget y0 y9 4))) from rfl, zCL, zAS, zAS, ec]
  have e2 : (@Tm.den (zAm L g i st) (.len (.lget y0 y9 4))).asI = ((gS (L.getD i []) 4).length : Int) := by
   show ((@Tm.den (zAm L g i st) (.lget y0 y9 4)).asS.length : Int) = _;rw [el]
  rw [e2, zBs];omega
 ·rw [zAS];have e2 : (@Tm.den (zAm L g i st) xAB).asI = ((gS st 2).length : Int) + (((gS (L.getD i []) 4).take ((zA5 (gD st 0)).write (gS (L.getD i []) 4)).1.toNat).length : Int) := by
   show ((gS st 2).length : Int) + ((@Tm.den (zAm L g i st) zTD).asS.length : Int) = _;rw [ecut]
  rw [e2, zBs];omega
 ·have ew : (@Tm.den (zAm L g i st) (.sb .add y12 zTD)).asS = gS st 2 ++ (gS (L.getD i []) 4).take ((zA5 (gD st 0)).write (gS (L.getD i []) 4)).1.toNat := by
   show gS st 2 ++ (@Tm.den (zAm L g i st) zTD).asS = _;rw [ecut]
  have ed : zA5 (@Tm.den (zAm L g i st) (.app 4224 zKq)) = ((zA5 (gD st 0)).write (gS (L.getD i []) 4)).2 := by
   show zA5 (fnC 4224 (@Tm.den (zAm L g i st) zKq)) = _;rw [hx]; exact zOr _ _
  exact zCT (hw) (by omega) (ed) (rfl) (ew) (rfl) (rfl) (rfl) (rfl) (rfl) (h.bad) (h.l0.up) (h.l1.up) ((by show (@Tm.den (zAm L g i st) (.sb .add y12 zTD)).asS.length ≤ _; rw [ew, List.length_append]; omega)) ((by have := h.w1; show (gS st 3).length ≤ _; omega))
theorem xB1 (h : SOK g i st) (hi : i ≤ 300) : NxP (zAm L g i st) (IPc L g (i + 1)) xHR := by
 obtain ⟨sA, sB, hp0⟩ := h.pi;have hp := hp0;unfold xHR;generalize hm : @Tm.den (zAm L g i st) zFr = m;have hr := hp.read m.asI;have hx : @Tm.den (zAm L g i st) (tp [y10, zFr]) = x2 (gD st 0) m := by
  show Dat.dP _ (.dP (@Tm.den (zAm L g i st) zFr) _) = _;rw [hm]; rfl
 have er : (@Tm.den (zAm L g i st) zTI).asS = ((zA5 (gD st 0)).read m.asI).1 := by
  show (fnC 4289 (@Tm.den (zAm L g i st) (tp [y10, zFr]))).asS = _;rw [hx]; exact zOt _ _
 have hpre := (hr.2).pre.length_le;have hwl := h.w1;refine npT (by show (fnC 4290 (@Tm.den (zAm L g i st) (tp [y10, zFr]))).asB = true; rw [hx]; exact zRV _ _) (npT ?_ (zAA hi ?_))
 ·rw [show xA7 = .ib .leq .i64 (.plus (.len y15) zUl) (.ci 9223372036854775807) from rfl, zAS]
  have e2 : (@Tm.den (zAm L g i st) (.plus (.len y15) zUl)).asI = ((gS st 5).length : Int) + (((zA5 (gD st 0)).read m.asI).1.length : Int) := by
   show ((gS st 5).length : Int) + ((@Tm.den (zAm L g i st) zTI).asS.length : Int) = _;rw [er]
  rw [List.length_append] at hpre;rw [e2, zBs];omega
 ·have ed : zA5 (@Tm.den (zAm L g i st) (.app 4288 (tp [y10, zFr]))) = ((zA5 (gD st 0)).read m.asI).2 := by
   show zA5 (fnC 4288 (@Tm.den (zAm L g i st) (tp [y10, zFr]))) = _;rw [hx]; exact zRR _ _
  have ew : (@Tm.den (zAm L g i st) xA6).asS = gS st 5 ++ ((zA5 (gD st 0)).read m.asI).1 := by
   show gS st 5 ++ (@Tm.den (zAm L g i st) zTI).asS = _;rw [er]
  exact zCT (hr) (by omega) (ed) (rfl) (rfl) (rfl) (ew) (rfl) (rfl) (rfl) (h.bad) (h.l0.up) (h.l1.up) ((by have := h.w0; show (gS st 2).length ≤ _; omega)) ((by have := h.w1; show (gS st 3).length ≤ _; omega))
theorem zXS (h : SOK g i st) (hi : i ≤ 300) : NxP (zAm L g i st) (IPc L g (i + 1)) xHQ := by
 obtain ⟨sA, sB, hp0⟩ := h.pi;have hp := hp0;unfold xHQ;generalize hm : @Tm.den (zAm L g i st) (.not (.lget y0 y9 2)) = m;obtain ⟨okn, s', hn1, hn2⟩ := hp.next m.asB;have hx : @Tm.den (zAm L g i st) zIy = x2 (gD st 0) m := by
  show Dat.dP _ (.dP (@Tm.den (zAm L g i st) (.not (.lget y0 y9 2))) _) = _;rw [hm]; rfl
 have ap : ∀ n, @Tm.den (zAm L g i st) (.app n zIy) = fnC n (x2 (gD st 0) m) := fun n => by
  show fnC n (@Tm.den (zAm L g i st) zIy) = _;rw [hx]
 have ed : zA5 (@Tm.den (zAm L g i st) (.app 4480 zIy)) = ((zA5 (gD st 0)).nextR m.asB).2.2 := by rw [ap]; exact zRT _ _
 have lk := h.l0;refine npT (by rw [ap, zRX]; exact okn) (npC (fun hb => npT ?_ (zAA hi ?_)) (fun _ => zAA hi ?_))
 ·rw [zBw];have := lk.nN;show gI st 8 < 4294967295 ∧ ¬ 4294967295 ≤ gI st 8;omega
 ·rw [ap, zOu] at hb;have hrow : cellsD (@Tm.den (zAm L g i st) zMR) = frD ((zA5 (gD st 0)).nextR m.asB).1 := by
   rw [← zWr];show [@Tm.den (zAm L g i st) (.app 4481 zIy), @Tm.den (zAm L g i st) (.app 4482 zIy), @Tm.den (zAm L g i st) (.app 4483 zIy), @Tm.den (zAm L g i st) (.app 4484 zIy), @Tm.den (zAm L g i st) (.app 4485 zIy), @Tm.den (zAm L g i st) (.app 4486 zIy), @Tm.den (zAm L g i st) (.app 4487 zIy)] = _;rw [ap, ap, ap, ap, ap, ap, ap]
  have eL : (@Tm.den (zAm L g i st) zOR).asL = zBE (gL st 9) (gI st 7) (gI st 8) ++ [frD ((zA5 (gD st 0)).nextR m.asB).1] := by
   show zBE (gL st 9) (gI st 7) (gI st 8) ++ [cellsD (@Tm.den (zAm L g i st) zMR)] = _;rw [hrow]
  have eN : (@Tm.den (zAm L g i st) (.llen zOR)).asI = ((zBE (gL st 9) (gI st 7) (gI st 8) ++ [frD ((zA5 (gD st 0)).nextR m.asB).1]).length : Int) := by
   show ((@Tm.den (zAm L g i st) zOR).asL.length : Int) = _;rw [eL]
  have hla := lk.add (frD ((zA5 (gD st 0)).nextR m.asB).1);have eA : zBE (@Tm.den (zAm L g i st) zOR).asL 0 (@Tm.den (zAm L g i st) (.llen zOR)).asI = zBE (gL st 9) (gI st 7) (gI st 8) ++ [frD ((zA5 (gD st 0)).nextR m.asB).1] := by rw [eL, eN, zMS]
  have hl2 : LokC (i + 1) 0 (@Tm.den (zAm L g i st) (.llen zOR)).asI (@Tm.den (zAm L g i st) zOR).asL := by rw [eL, eN]; exact hla
  exact zCT (hn1 hb) (by omega) (ed) (rfl) (rfl) (rfl) (rfl) (rfl) (eA) (rfl) (h.bad) (hl2) (h.l1.up) ((by have := h.w0; show (gS st 2).length ≤ _; omega)) ((by have := h.w1; show (gS st 3).length ≤ _; omega))
 ·exact zCT (hn2) (by omega) (ed) (rfl) (rfl) (rfl) (rfl) (rfl) (rfl) (rfl) (h.bad) (h.l0.up) (h.l1.up) ((by have := h.w0; show (gS st 2).length ≤ _; omega)) ((by have := h.w1; show (gS st 3).length ≤ _; omega))
theorem zXR (h : SOK g i st) (hi : i ≤ 300) : NxP (zAm L g i st) (IPc L g (i + 1)) xHP := by
 obtain ⟨sA, sB, hp0⟩ := h.pi;have hp := hp0;unfold xHP;have lk := h.l0;refine npC (fun _ => zAA hi ?_) (fun c0 => ?_)
 ·exact zCT hp0 (by omega) rfl rfl rfl rfl rfl rfl rfl rfl h.bad h.l0.up h.l1.up (by have := h.w0; show (gS st 2).length ≤ _; omega) (by have := h.w1; show (gS st 3).length ≤ _; omega)
 ·have c1 : ¬ gI st 8 = 0 := by rw [zAQ] at c0; exact c0
  have hn := lk.hn;obtain ⟨lp, lr⟩ := zGf lk (show 0 < gI st 8 by omega)
  rw [lr] at hp;have hx : @Tm.den (zAm L g i st) zSz = x8 (gD st 1) ((gL st 9).getD (gI st 7).toNat []) := rfl;have ap : ∀ n, @Tm.den (zAm L g i st) (.app n zSz) = fnC n (x8 (gD st 1) ((gL st 9).getD (gI st 7).toNat [])) := fun n => by
   show fnC n (@Tm.den (zAm L g i st) zSz) = _;rw [hx]
  obtain ⟨⟨s', hh⟩, h6⟩ := hp.hear;have ed : zA5 (@Tm.den (zAm L g i st) (.app 4352 zSz)) = (zA5 (gD st 1)).hear (zC7 ((gL st 9).getD (gI st 7).toNat []) 0) := by rw [ap]; exact zRU _ _
  have hokS : SOK g (i + 1) [@Tm.den (zAm L g i st) y10, @Tm.den (zAm L g i st) (.app 4352 zSz), gD st 2, gD st 3, gD st 4, gD st 5, gD st 6, @Tm.den (zAm L g i st) (.plus y17 (.ci 1)), @Tm.den (zAm L g i st) (.minus y18 (.ci 1)), gD st 9, gD st 10, gD st 11, gD st 12] := zCT (hh) (by omega) (rfl) (ed) (rfl) (rfl) (rfl) (rfl) (rfl) (rfl) (h.bad) (lp.up) (h.l1.up) ((by have := h.w0; show (gS st 2).length ≤ _; omega)) ((by have := h.w1; show (gS st 3).length ≤ _; omega))
  refine npT ?_ (npT ?_ (npT ?_ (npC (fun c2 => npC (fun c3 => ?_) (fun _ => zAA hi hokS)) (fun _ => zAA hi hokS))))
  ·rw [zBw];show 0 < gI st 8 ∧ ¬ gI st 8 ≤ 0;omega
  ·rw [zAS];show 1 ≤ gI st 8 ∧ ¬ gI st 8 < 1;omega
  ·rw [ap, zRY];exact decide_eq_true hp.okH
  ·exfalso;rw [zEk] at c2;rw [zAU] at c3;have e3 : (zA5 (@Tm.den (zAm L g i st) (.app 4352 zSz))).c.st = 6 := c3;rw [ed] at e3;exact c2 (h6 e3)
theorem xEa (h : SOK g i st) (hi : i ≤ 300) : NxP (zAm L g i st) (IPc L g (i + 1)) xCE := by
 obtain ⟨sA, sB, hp0⟩ := h.pi;have hp := hp0;unfold xCE;have lk := h.l0;refine npC (fun c0 => npT ?_ (zAA hi ?_)) (fun _ => zAA hi ?_)
 ·rw [zAT] at c0;have c1 : 0 < gI st 8 := c0.1;rw [zAS];show 1 ≤ gI st 8 ∧ ¬ gI st 8 < 1;omega
 ·rw [zAT] at c0;have c1 : 0 < gI st 8 := c0.1;obtain ⟨lp, lr⟩ := zGf lk c1;rw [lr] at hp;exact zCT (hp.lose) (by omega) (rfl) (rfl) (rfl) (rfl) (rfl) (rfl) (rfl) (rfl) (h.bad) (lp.up) (h.l1.up) ((by have := h.w0; show (gS st 2).length ≤ _; omega)) ((by have := h.w1; show (gS st 3).length ≤ _; omega))
 ·exact zCT hp0 (by omega) rfl rfl rfl rfl rfl rfl rfl rfl h.bad h.l0.up h.l1.up (by have := h.w0; show (gS st 2).length ≤ _; omega) (by have := h.w1; show (gS st 3).length ≤ _; omega)
theorem xDZ (h : SOK g i st) (hi : i ≤ 300) : NxP (zAm L g i st) (IPc L g (i + 1)) xCD := by
 obtain ⟨sA, sB, hp⟩ := h.pi;unfold xCD;obtain ⟨s1, h1⟩ := hp.tick;obtain ⟨s2, h2⟩ := (PI.swap h1).tick;refine npT (by show (fnC 4417 (x1 (gD st 0))).asB = true; rw [zIw]; exact decide_eq_true hp.1.okT) (npT (by show (fnC 4417 (x1 (gD st 1))).asB = true; rw [zIw]; exact decide_eq_true hp.2.okT) (zAA hi ?_))
 exact zCT (PI.swap h2) (by omega) (zIs _) (zIs _) rfl rfl rfl rfl rfl rfl h.bad h.l0.up h.l1.up (by have := h.w0; show (gS st 2).length ≤ _; omega) (by have := h.w1; show (gS st 3).length ≤ _; omega)
theorem xGL (h : SOK g i st) (hi : i ≤ 300) (hd : (gS (L.getD i []) 4).length ≤ 40) : NxP (zAm L g i st) (IPc L g (i + 1)) xIV := xB2 h hi hd
theorem xGK (h : SOK g i st) (hi : i ≤ 300) : NxP (zAm L g i st) (IPc L g (i + 1)) xIU := xB1 h hi
theorem xGJ (h : SOK g i st) (hi : i ≤ 300) : NxP (zAm L g i st) (IPc L g (i + 1)) xIT := zXS h hi
theorem xGI (h : SOK g i st) (hi : i ≤ 300) : NxP (zAm L g i st) (IPc L g (i + 1)) xIS := zXS h hi
theorem xEc (h : SOK g i st) (hi : i ≤ 300) : NxP (zAm L g i st) (IPc L g (i + 1)) xFu := zXR h hi
theorem xEb (h : SOK g i st) (hi : i ≤ 300) : NxP (zAm L g i st) (IPc L g (i + 1)) xFt := zXR h hi
theorem xGB (h : SOK g i st) (hi : i ≤ 300) : NxP (zAm L g i st) (IPc L g (i + 1)) xHO := by
 obtain ⟨sA, sB, hp0⟩ := h.pi;have hp := PI.swap hp0;unfold xHO;refine npT (show (fnC 4098 (x1 (gD st 1))).asB = true from zRW _) (zAA hi ?_)
 exact zCT (PI.swap (hp.open_)) (by omega) (rfl) (zRS _) (rfl) (rfl) (rfl) (rfl) (rfl) (rfl) (h.bad) (h.l0.up) (h.l1.up) ((by have := h.w0; show (gS st 2).length ≤ _; omega)) ((by have := h.w1; show (gS st 3).length ≤ _; omega))
theorem xGA (h : SOK g i st) (hi : i ≤ 300) : NxP (zAm L g i st) (IPc L g (i + 1)) xHN := by
 obtain ⟨sA, sB, hp0⟩ := h.pi;have hp := PI.swap hp0;unfold xHN;refine npC (fun _ => npT (show (fnC 4162 (x1 (gD st 1))).asB = true from zOx _) (zAA hi ?_)) (fun _ => zAA hi ?_)
 ·exact zCT (PI.swap (hp.close)) (by omega) (rfl) (zOv _) (rfl) (rfl) (rfl) (rfl) (rfl) (rfl) (h.bad) (h.l0.up) (h.l1.up) ((by have := h.w0; show (gS st 2).length ≤ _; omega)) ((by have := h.w1; show (gS st 3).length ≤ _; omega))
 ·exact zCT hp0 (by omega) rfl rfl rfl rfl rfl rfl rfl rfl h.bad h.l0.up h.l1.up (by have := h.w0; show (gS st 2).length ≤ _; omega) (by have := h.w1; show (gS st 3).length ≤ _; omega)
theorem xBz (h : SOK g i st) (hi : i ≤ 300) (hd : (gS (L.getD i []) 4).length ≤ 40) : NxP (zAm L g i st) (IPc L g (i + 1)) xHM := by
 obtain ⟨sA, sB, hp0⟩ := h.pi;have hp := PI.swap hp0;unfold xHM;have hdat : @Tm.den (zAm L g i st) (.lget y0 y9 4) = gD (L.getD i []) 4 := by
  show ((L.getD ((i : Int)).toNat []).getD 4 (.dI 0)) = _;rw [Int.toNat_natCast]
 obtain ⟨⟨s', hw⟩, n0, n1⟩ := hp.write (gS (L.getD i []) 4);have hx : @Tm.den (zAm L g i st) zSw = x2 (gD st 1) (gD (L.getD i []) 4) := by
  show Dat.dP _ (.dP (@Tm.den (zAm L g i st) (.lget y0 y9 4)) _) = _;rw [hdat]; rfl
 have en : (@Tm.den (zAm L g i st) (.app 4225 zSw)).asI = ((zA5 (gD st 1)).write (gS (L.getD i []) 4)).1 := by
  show (fnC 4225 (@Tm.den (zAm L g i st) zSw)).asI = _;rw [hx]; exact zLl _ _
 have el : (@Tm.den (zAm L g i st) (.lget y0 y9 4)).asS = gS (L.getD i []) 4 := by rw [hdat]; rfl
 have ec : (@Tm.den (zAm L g i st) zGc).asI = ((zA5 (gD st 1)).write (gS (L.getD i []) 4)).1 := (zSf (by rw [en]; exact n0) (by rw [en, el]; exact n1)).trans en
 have ecut : (@Tm.den (zAm L g i st) zTH).asS = (gS (L.getD i []) 4).take ((zA5 (gD st 1)).write (gS (L.getD i []) 4)).1.toNat := by
  show zBl (@Tm.den (zAm L g i st) (.lget y0 y9 4)).asS 0 (@Tm.den (zAm L g i st) zGc).asI = _;rw [ec, el, zCZ]
 have hl := h.w1;have lcut : ((gS (L.getD i []) 4).take ((zA5 (gD st 1)).write (gS (L.getD i []) 4)).1.toNat).length ≤ 40 := by rw [List.length_take]; omega
 refine npT (by show (fnC 4227 (@Tm.den (zAm L g i st) zSw)).asB = true; rw [hx]; exact zOw _ _) (npT ?_ (npT ?_ (zAA hi ?_)))
 ·rw [show xAz = .and (.ib .leq .i64 (.ci 0) zGc) (.ib .leq .i64 zGc (.len (.lget y0 y9 4))) from rfl, zCL, zAS, zAS, ec]
  have e2 : (@Tm.den (zAm L g i st) (.len (.lget y0 y9 4))).asI = ((gS (L.getD i []) 4).length : Int) := by
   show ((@Tm.den (zAm L g i st) (.lget y0 y9 4)).asS.length : Int) = _;rw [el]
  rw [e2, zBs];omega
 ·rw [zAS];have e2 : (@Tm.den (zAm L g i st) xAy).asI = ((gS st 3).length : Int) + (((gS (L.getD i []) 4).take ((zA5 (gD st 1)).write (gS (L.getD i []) 4)).1.toNat).length : Int) := by
   show ((gS st 3).length : Int) + ((@Tm.den (zAm L g i st) zTH).asS.length : Int) = _;rw [ecut]
  rw [e2, zBs];omega
 ·have ew : (@Tm.den (zAm L g i st) (.sb .add y13 zTH)).asS = gS st 3 ++ (gS (L.getD i []) 4).take ((zA5 (gD st 1)).write (gS (L.getD i []) 4)).1.toNat := by
   show gS st 3 ++ (@Tm.den (zAm L g i st) zTH).asS = _;rw [ecut]
  have ed : zA5 (@Tm.den (zAm L g i st) (.app 4224 zSw)) = ((zA5 (gD st 1)).write (gS (L.getD i []) 4)).2 := by
   show zA5 (fnC 4224 (@Tm.den (zAm L g i st) zSw)) = _;rw [hx]; exact zOr _ _
  exact zCT (PI.swap (hw)) (by omega) (rfl) (ed) (rfl) (ew) (rfl) (rfl) (rfl) (rfl) (h.bad) (h.l0.up) (h.l1.up) ((by have := h.w0; show (gS st 2).length ≤ _; omega)) ((by show (@Tm.den (zAm L g i st) (.sb .add y13 zTH)).asS.length ≤ _; rw [ew, List.length_append]; omega))
theorem xBy (h : SOK g i st) (hi : i ≤ 300) : NxP (zAm L g i st) (IPc L g (i + 1)) xHL := by
 obtain ⟨sA, sB, hp0⟩ := h.pi;have hp := PI.swap hp0;unfold xHL;generalize hm : @Tm.den (zAm L g i st) zFr = m;have hr := hp.read m.asI;have hx : @Tm.den (zAm L g i st) (tp [y11, zFr]) = x2 (gD st 1) m := by
  show Dat.dP _ (.dP (@Tm.den (zAm L g i st) zFr) _) = _;rw [hm]; rfl
 have er : (@Tm.den (zAm L g i st) zTJ).asS = ((zA5 (gD st 1)).read m.asI).1 := by
  show (fnC 4289 (@Tm.den (zAm L g i st) (tp [y11, zFr]))).asS = _;rw [hx]; exact zOt _ _
 have hpre := (hr.2).pre.length_le;have hwl := h.w0;refine npT (by show (fnC 4290 (@Tm.den (zAm L g i st) (tp [y11, zFr]))).asB = true; rw [hx]; exact zRV _ _) (npT ?_ (zAA hi ?_))
 ·rw [show xAw = .ib .leq .i64 (.plus (.len y14) zUa) (.ci 9223372036854775807) from rfl, zAS]
  have e2 : (@Tm.den (zAm L g i st) (.plus (.len y14) zUa)).asI = ((gS st 4).length : Int) + (((zA5 (gD st 1)).read m.asI).1.length : Int) := by
   show ((gS st 4).length : Int) + ((@Tm.den (zAm L g i st) zTJ).asS.length : Int) = _;rw [er]
  rw [List.length_append] at hpre;rw [e2, zBs];omega
 ·have ed : zA5 (@Tm.den (zAm L g i st) (.app 4288 (tp [y11, zFr]))) = ((zA5 (gD st 1)).read m.asI).2 := by
   show zA5 (fnC 4288 (@Tm.den (zAm L g i st) (tp [y11, zFr]))) = _;rw [hx]; exact zRR _ _
  have ew : (@Tm.den (zAm L g i st) xAv).asS = gS st 4 ++ ((zA5 (gD st 1)).read m.asI).1 := by
   show gS st 4 ++ (@Tm.den (zAm L g i st) zTJ).asS = _;rw [er]
  exact zCT (PI.swap (hr)) (by omega) (rfl) (ed) (rfl) (rfl) (rfl) (ew) (rfl) (rfl) (h.bad) (h.l0.up) (h.l1.up) ((by have := h.w0; show (gS st 2).length ≤ _; omega)) ((by have := h.w1; show (gS st 3).length ≤ _; omega))
theorem zXE (h : SOK g i st) (hi : i ≤ 300) : NxP (zAm L g i st) (IPc L g (i + 1)) xHK := by
 obtain ⟨sA, sB, hp0⟩ := h.pi;have hp := PI.swap hp0;unfold xHK;generalize hm : @Tm.den (zAm L g i st) (.not (.lget y0 y9 2)) = m;obtain ⟨okn, s', hn1, hn2⟩ := hp.next m.asB;have hx : @Tm.den (zAm L g i st) zI2 = x2 (gD st 1) m := by
  show Dat.dP _ (.dP (@Tm.den (zAm L g i st) (.not (.lget y0 y9 2))) _) = _;rw [hm]; rfl
 have ap : ∀ n, @Tm.den (zAm L g i st) (.app n zI2) = fnC n (x2 (gD st 1) m) := fun n => by
  show fnC n (@Tm.den (zAm L g i st) zI2) = _;rw [hx]
 have ed : zA5 (@Tm.den (zAm L g i st) (.app 4480 zI2)) = ((zA5 (gD st 1)).nextR m.asB).2.2 := by rw [ap]; exact zRT _ _
 have lk := h.l1;refine npT (by rw [ap, zRX]; exact okn) (npC (fun hb => npT ?_ (zAA hi ?_)) (fun _ => zAA hi ?_))
 ·rw [zBw];have := lk.nN;show gI st 11 < 4294967295 ∧ ¬ 4294967295 ≤ gI st 11;omega
 ·rw [ap, zOu] at hb;have hrow : cellsD (@Tm.den (zAm L g i st) zMO) = frD ((zA5 (gD st 1)).nextR m.asB).1 := by
   rw [← zWr];show [@Tm.den (zAm L g i st) (.app 4481 zI2), @Tm.den (zAm L g i st) (.app 4482 zI2), @Tm.den (zAm L g i st) (.app 4483 zI2), @Tm.den (zAm L g i st) (.app 4484 zI2), @Tm.den (zAm L g i st) (.app 4485 zI2), @Tm.den (zAm L g i st) (.app 4486 zI2), @Tm.den (zAm L g i st) (.app 4487 zI2)] = _;rw [ap, ap, ap, ap, ap, ap, ap]
  have eL : (@Tm.den (zAm L g i st) zOS).asL = zBE (gL st 12) (gI st 10) (gI st 11) ++ [frD ((zA5 (gD st 1)).nextR m.asB).1] := by
   show zBE (gL st 12) (gI st 10) (gI st 11) ++ [cellsD (@Tm.den (zAm L g i st) zMO)] = _;rw [hrow]
  have eN : (@Tm.den (zAm L g i st) (.llen zOS)).asI = ((zBE (gL st 12) (gI st 10) (gI st 11) ++ [frD ((zA5 (gD st 1)).nextR m.asB).1]).length : Int) := by
   show ((@Tm.den (zAm L g i st) zOS).asL.length : Int) = _;rw [eL]
  have hla := lk.add (frD ((zA5 (gD st 1)).nextR m.asB).1);have eA : zBE (@Tm.den (zAm L g i st) zOS).asL 0 (@Tm.den (zAm L g i st) (.llen zOS)).asI = zBE (gL st 12) (gI st 10) (gI st 11) ++ [frD ((zA5 (gD st 1)).nextR m.asB).1] := by rw [eL, eN, zMS]
  have hl2 : LokC (i + 1) 0 (@Tm.den (zAm L g i st) (.llen zOS)).asI (@Tm.den (zAm L g i st) zOS).asL := by rw [eL, eN]; exact hla
  exact zCT (PI.swap (hn1 hb)) (by omega) (rfl) (ed) (rfl) (rfl) (rfl) (rfl) (rfl) (eA) (h.bad) (h.l0.up) (hl2) ((by have := h.w0; show (gS st 2).length ≤ _; omega)) ((by have := h.w1; show (gS st 3).length ≤ _; omega))
 ·exact zCT (PI.swap (hn2)) (by omega) (rfl) (ed) (rfl) (rfl) (rfl) (rfl) (rfl) (rfl) (h.bad) (h.l0.up) (h.l1.up) ((by have := h.w0; show (gS st 2).length ≤ _; omega)) ((by have := h.w1; show (gS st 3).length ≤ _; omega))
theorem zXD (h : SOK g i st) (hi : i ≤ 300) : NxP (zAm L g i st) (IPc L g (i + 1)) xHJ := by
 obtain ⟨sA, sB, hp0⟩ := h.pi;have hp := PI.swap hp0;unfold xHJ;have lk := h.l1;refine npC (fun _ => zAA hi ?_) (fun c0 => ?_)
 ·exact zCT hp0 (by omega) rfl rfl rfl rfl rfl rfl rfl rfl h.bad h.l0.up h.l1.up (by have := h.w0; show (gS st 2).length ≤ _; omega) (by have := h.w1; show (gS st 3).length ≤ _; omega)
 ·have c1 : ¬ gI st 11 = 0 := by rw [zAQ] at c0; exact c0
  have hn := lk.hn;obtain ⟨lp, lr⟩ := zGf lk (show 0 < gI st 11 by omega)
  rw [lr] at hp;have hx : @Tm.den (zAm L g i st) zSy = x8 (gD st 0) ((gL st 12).getD (gI st 10).toNat []) := rfl;have ap : ∀ n, @Tm.den (zAm L g i st) (.app n zSy) = fnC n (x8 (gD st 0) ((gL st 12).getD (gI st 10).toNat [])) := fun n => by
   show fnC n (@Tm.den (zAm L g i st) zSy) = _;rw [hx]
  obtain ⟨⟨s', hh⟩, h6⟩ := hp.hear;have ed : zA5 (@Tm.den (zAm L g i st) (.app 4352 zSy)) = (zA5 (gD st 0)).hear (zC7 ((gL st 12).getD (gI st 10).toNat []) 0) := by rw [ap]; exact zRU _ _
  have hokS : SOK g (i + 1) [@Tm.den (zAm L g i st) (.app 4352 zSy), @Tm.den (zAm L g i st) y11, gD st 2, gD st 3, gD st 4, gD st 5, gD st 6, gD st 7, gD st 8, gD st 9, @Tm.den (zAm L g i st) (.plus y20 (.ci 1)), @Tm.den (zAm L g i st) (.minus y21 (.ci 1)), gD st 12] := zCT (PI.swap (hh)) (by omega) (ed) (rfl) (rfl) (rfl) (rfl) (rfl) (rfl) (rfl) (h.bad) (h.l0.up) (lp.up) ((by have := h.w0; show (gS st 2).length ≤ _; omega)) ((by have := h.w1; show (gS st 3).length ≤ _; omega))
  refine npT ?_ (npT ?_ (npT ?_ (npC (fun c2 => npC (fun c3 => ?_) (fun _ => zAA hi hokS)) (fun _ => zAA hi hokS))))
  ·rw [zBw];show 0 < gI st 11 ∧ ¬ gI st 11 ≤ 0;omega
  ·rw [zAS];show 1 ≤ gI st 11 ∧ ¬ gI st 11 < 1;omega
  ·rw [ap, zRY];exact decide_eq_true hp.okH
  ·exfalso;rw [zEk] at c2;rw [zAU] at c3;have e3 : (zA5 (@Tm.den (zAm L g i st) (.app 4352 zSy))).c.st = 6 := c3;rw [ed] at e3;exact c2 (h6 e3)
theorem xDU (h : SOK g i st) (hi : i ≤ 300) : NxP (zAm L g i st) (IPc L g (i + 1)) xCx := by
 obtain ⟨sA, sB, hp0⟩ := h.pi;have hp := PI.swap hp0;unfold xCx;have lk := h.l1;refine npC (fun c0 => npT ?_ (zAA hi ?_)) (fun _ => zAA hi ?_)
 ·rw [zAT] at c0;have c1 : 0 < gI st 11 := c0.1;rw [zAS];show 1 ≤ gI st 11 ∧ ¬ gI st 11 < 1;omega
 ·rw [zAT] at c0;have c1 : 0 < gI st 11 := c0.1;obtain ⟨lp, lr⟩ := zGf lk c1;rw [lr] at hp;exact zCT (PI.swap (hp.lose)) (by omega) (rfl) (rfl) (rfl) (rfl) (rfl) (rfl) (rfl) (rfl) (h.bad) (h.l0.up) (lp.up) ((by have := h.w0; show (gS st 2).length ≤ _; omega)) ((by have := h.w1; show (gS st 3).length ≤ _; omega))
 ·exact zCT hp0 (by omega) rfl rfl rfl rfl rfl rfl rfl rfl h.bad h.l0.up h.l1.up (by have := h.w0; show (gS st 2).length ≤ _; omega) (by have := h.w1; show (gS st 3).length ≤ _; omega)
theorem xDT (h : SOK g i st) (hi : i ≤ 300) : NxP (zAm L g i st) (IPc L g (i + 1)) xCw := by
 obtain ⟨sA, sB, hp⟩ := h.pi;unfold xCw;obtain ⟨s1, h1⟩ := hp.tick;obtain ⟨s2, h2⟩ := (PI.swap h1).tick;refine npT (by show (fnC 4417 (x1 (gD st 0))).asB = true; rw [zIw]; exact decide_eq_true hp.1.okT) (npT (by show (fnC 4417 (x1 (gD st 1))).asB = true; rw [zIw]; exact decide_eq_true hp.2.okT) (zAA hi ?_))
 exact zCT (PI.swap h2) (by omega) (zIs _) (zIs _) rfl rfl rfl rfl rfl rfl h.bad h.l0.up h.l1.up (by have := h.w0; show (gS st 2).length ≤ _; omega) (by have := h.w1; show (gS st 3).length ≤ _; omega)
theorem xG9 (h : SOK g i st) (hi : i ≤ 300) (hd : (gS (L.getD i []) 4).length ≤ 40) : NxP (zAm L g i st) (IPc L g (i + 1)) xIR := xBz h hi hd
theorem xG8 (h : SOK g i st) (hi : i ≤ 300) : NxP (zAm L g i st) (IPc L g (i + 1)) xIQ := xBy h hi
theorem xG7 (h : SOK g i st) (hi : i ≤ 300) : NxP (zAm L g i st) (IPc L g (i + 1)) xIP := zXE h hi
theorem xG6 (h : SOK g i st) (hi : i ≤ 300) : NxP (zAm L g i st) (IPc L g (i + 1)) xIO := zXE h hi
theorem xDW (h : SOK g i st) (hi : i ≤ 300) : NxP (zAm L g i st) (IPc L g (i + 1)) xFk := zXD h hi
theorem xDV (h : SOK g i st) (hi : i ≤ 300) : NxP (zAm L g i st) (IPc L g (i + 1)) xFj := zXD h hi
end
end
end Go.Proofs.YtenkabjkgngcdaaGreat.Ab
