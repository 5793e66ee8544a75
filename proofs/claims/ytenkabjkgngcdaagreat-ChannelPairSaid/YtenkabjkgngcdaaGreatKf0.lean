import Derived.Test.YtenkabjkgngcdaaGreatKd7
import Derived.Test.YtenkabjkgngcdaaGreatKe9
import Derived.Test.YtenkabjkgngcdaaGreatKb6
set_option linter.unusedVariables false
set_option linter.unusedSimpArgs false
set_option linter.unusedSectionVars false
namespace Go.Proofs.YtenkabjkgngcdaaGreat.Ab
open Go
noncomputable section
abbrev zPf : Tm := (.and (.ib .leq .i64 (.ci 0) zLv) (.ib .lss .i64 zLv xEr))
abbrev zPe : Tm := (.ib .gtr .i64 (.len (.lget xEG (.plus xEH zLv) 6)) xHk)
def xC1 : (Tree (AX × Option Eqs)) :=
 (.fork (.ib .lss .i64 zLv xEr)
 (.fork zPf
  (.fork zPe
   (.leaf (.ret, (some [])))
   (.fork (.ib .neq .u8 (.lget xEG (.plus xEH zLv) 0) (.ci 7))
    (.leaf (.ret, (some [])))
    (.leaf (.normal, (some [(.sI, zLv, (.ib .add .i64 zLv (.ci 1)))])))))
  .fail)
 (.leaf ((.exit 2), (some []))))
abbrev zTK : Tm := (.ib .lss .i64 zLv xIG)
abbrev xER : Tm := (.ib .neq .u8 (.lget xHl (.plus xHm zLv) 0) (.ci 7))
abbrev xBE : Tm := (.ib .leq .i64 (.ci 0) zLv)
set_option maxRecDepth 100000 in
theorem zQE : zA9 Tryz.prog (zCD Tryz.prog zOp 1000) (fun _ => none) 1000000 (zCB Tryz.prog fRi 1) (TRi 0 31) (zGF 31 155 (TRi 0 31) (FRi 0 31)) = xC1 := by kernel_rfl
abbrev zPd : Tm := (.and xBE zTK)
abbrev zPc : Tm := (.ib .gtr .i64 (.len (.lget xHl (.plus xHm zLv) 6)) xHk)
def xCz : (Tree (AX × Option Eqs)) :=
 (.fork zTK
 (.fork zPd
  (.fork zPc
   (.leaf (.ret, (some [])))
   (.fork xER
    (.leaf (.ret, (some [])))
    (.leaf (.normal, (some [(.sI, zLv, (.ib .add .i64 zLv (.ci 1)))])))))
  .fail)
 (.leaf ((.exit 2), (some []))))
set_option maxRecDepth 100000 in
theorem zQD : zA9 Tryz.prog (zCD Tryz.prog zOp 1000) (fun _ => none) 1000000 (zCB Tryz.prog fRi 1) (TRi 1 32) (zGF 32 155 (TRi 1 32) (FRi 1 32)) = xCz := by kernel_rfl
abbrev zSj : Tm := (.and (.ib .leq .i64 (.ci 0) (.len xB9)) (.ib .leq .i64 (.len xB9) (.len xEJ)))
abbrev zSi : Tm := (.and (.ib .leq .i64 (.ci 0) (.len xB8)) (.ib .leq .i64 (.len xB8) (.len xEI)))
def xB0 : (Tree (Option Eqs)) :=
 (.fork (.ib .gtr .i64 (.len xB9) (.len xEJ))
 (.leaf none)
 (.fork zSj
  (.fork (.sb .neq (.cut xEJ (.ci 0) (.len xB9)) xB9)
   (.leaf none)
   (.fork (.ib .gtr .i64 y21 y153)
    (.leaf none)
    (.fork (.ib .gtr .i64 (.len y35) zOF)
     (.leaf none)
     (.fork (.ib .gtr .i64 (.len y38) zOF)
      (.leaf none)
      (.fork (.ib .lss .i64 y29 (.ci 0))
       (.leaf none)
       (.fork (.ib .gtr .i64 y29 zOF)
        (.leaf none)
        (.fork (.ib .gtr .i64 (.ib .add .i64 y33 (.len y38)) zOF)
         (.leaf none)
         (.fork (.ib .gtr .i64 (.len xB8) (.len xEI))
          (.leaf none)
          (.fork zSi
           (.fork (.sb .neq (.cut xEI (.ci 0) (.len xB8)) xB8)
            (.leaf none)
            (.fork (.ib .gtr .i64 y89 y153)
             (.leaf none)
             (.fork (.ib .gtr .i64 (.len zMA) zOF)
              (.leaf none)
              (.fork (.ib .gtr .i64 (.len zKe) zOF)
               (.leaf none)
               (.fork (.ib .lss .i64 y97 (.ci 0))
                (.leaf none)
                (.fork (.ib .gtr .i64 y97 zOF)
                 (.leaf none)
                 (.fork (.ib .gtr .i64 (.ib .add .i64 y101 (.len zKe)) zOF)
                  (.leaf none)
                  (.leaf (some [(.sB, (.cb true), (.not xJ6))])))))))))
           .fail)))))))))
  .fail))
set_option maxRecDepth 100000 in
theorem zXF : SRight.tree Tryz.prog xGo fRi = xB0 := by kernel_rfl
abbrev zE0 (ρ : Rho) (k : Nat) : Rho := ⟨fun i => bif Nat.beq i 155 then .dI k else ρ.val i, ρ.fn⟩
theorem zMU (ρ : Rho) (k : Nat) : Low 155 (zE0 ρ k) ρ := ⟨fun i hi => by
 show (bif Nat.beq i 155 then _ else _) = _
 rw [show Nat.beq i 155 = false from by
  cases h : Nat.beq i 155 with
  | false => rfl
  | true => have := Nat.eq_of_beq_eq_true h; omega]
 rfl, rfl⟩
theorem xAr (ρ : Rho) (n : Nat) : (zE0 ρ 0).val n = match sRi n with
   | some t => @Tm.den ρ t
   | none => ρ.val n := by
 show (bif Nat.beq n 155 then _ else _) = _
 unfold sRi;cases Nat.beq n 155 with
 | true => rfl
 | false => rfl
theorem zQp {ρ : Rho} : TabOK ρ xBN := ⟨fun _ _ _ _ _ _ h ho => zP4 h, trivial⟩
theorem zOo {ρ : Rho} : @EnvOK ρ Tryz.prog zOp := zET zQp
theorem zUp {L : List (List Dat)} {o n : Int} {k : Nat} (h0 : 0 ≤ o) (h1 : o + n ≤ (L.length : Int)) (hk : (k : Int) < n) : L.getD (o + (k : Int)).toNat [] ∈ zBE L o n := by
 unfold zBE;have hl : (o + (k : Int)).toNat < L.length := by omega
 have e : (L.drop o.toNat).take n.toNat = (L.drop o.toNat).take n.toNat := rfl;refine List.mem_iff_getElem?.2 ⟨k, ?_⟩;rw [List.getElem?_take, if_pos (by omega), List.getElem?_drop, List.getD_eq_getElem?_getD, show o.toNat + k = (o + (k : Int)).toNat by omega, List.getElem?_eq_getElem hl]
 rfl
theorem xD6 {ρ : Rho} (h : zHL (ρ.val 143).asL (ρ.val 141).asI (ρ.val 142).asI (ρ.val 149).asI) (h1 : 0 ≤ (ρ.val 149).asI) (hn : (ρ.val 142).asI ≤ 100000) : GOk ρ fRi 1 (gRi 0 31) := by
 obtain ⟨q1, q2, q3, q4⟩ := h;have hN : (((ρ.val 142).asI.toNat : Nat) : Int) = (ρ.val 142).asI := by omega
 refine zMn zCq ρ (fun k => zE0 ρ k) (ρ.val 142).asI.toNat (fuel := 1000000) (cf := zCD Tryz.prog zOp 1000) (lf := fun _ => none) (by simp) rfl
  (fun k _ => by letI : Rho := zE0 ρ k; exact zC5 zCq zOo 1000) (fun k _ => by letI : Rho := zE0 ρ k; exact zNW) (fun k _ => zMU ρ _) (fun k hk => ?_) ?_ (xAr ρ)
 ·rw [zQE];unfold xC1;have hm := q4 _ (zUp (k := k) q1 q3 (by omega))
  have e1 : (@Tm.den (zE0 ρ k) (.ib .lss .i64 zLv xEr)).asB = true := by
   rw [zBw];show (k : Int) < (ρ.val 142).asI ∧ ¬ (ρ.val 142).asI ≤ (k : Int);omega
  have e2 : (@Tm.den (zE0 ρ k) zPf).asB = true := by
   rw [show zPf = .and xBE (.ib .lss .i64 zLv xEr) from rfl, zCL]
   exact ⟨by rw [zAS]; show (0 : Int) ≤ (k : Int) ∧ ¬ (k : Int) < 0; omega, e1⟩
  have e3 : (@Tm.den (zE0 ρ k) zPe).asB = false := by
   rw [show zPe = .ib .gtr .i64 (.len (.lget xEG (.plus xEH zLv) 6)) xHk from rfl, zAO]
   show ((gS ((ρ.val 143).asL.getD ((ρ.val 141).asI + (k : Int)).toNat []) 6).length : Int) ≤ (ρ.val 149).asI ∧ ¬ _ < _;have := hm.1;refine ⟨by omega, ?_⟩
   show ¬ (ρ.val 149).asI < ((gS ((ρ.val 143).asL.getD ((ρ.val 141).asI + (k : Int)).toNat []) 6).length : Int);omega
  have e4 : (@Tm.den (zE0 ρ k) (.ib .neq .u8 (.lget xEG (.plus xEH zLv) 0) (.ci 7))).asB = false := by
   rw [zEl]; exact hm.2
  rw [zMN e1, zMN e2, zCN e3, zCN e4];refine ⟨_, rfl, ?_, trivial⟩;show ((k + 1 : Nat) : Int) = IntKind.i64.wrap ((k : Int) + 1);rw [i64wrap (by omega) (by omega)]; rfl
 ·rw [zQE];unfold xC1;have e1 : (@Tm.den (zE0 ρ (ρ.val 142).asI.toNat) (.ib .lss .i64 zLv xEr)).asB = false := by
   rw [zBV];show (ρ.val 142).asI ≤ (((ρ.val 142).asI.toNat : Nat) : Int) ∧ ¬ (((ρ.val 142).asI.toNat : Nat) : Int) < (ρ.val 142).asI;omega
  rw [zCN e1];exact ⟨_, rfl, trivial⟩
theorem xD5 {ρ : Rho} (h : zHL (ρ.val 146).asL (ρ.val 144).asI (ρ.val 145).asI (ρ.val 149).asI) (h1 : 0 ≤ (ρ.val 149).asI) (hn : (ρ.val 145).asI ≤ 100000) : GOk ρ fRi 1 (gRi 1 32) := by
 obtain ⟨q1, q2, q3, q4⟩ := h;have hN : (((ρ.val 145).asI.toNat : Nat) : Int) = (ρ.val 145).asI := by omega
 refine zMn zCq ρ (fun k => zE0 ρ k) (ρ.val 145).asI.toNat (fuel := 1000000) (cf := zCD Tryz.prog zOp 1000) (lf := fun _ => none) (by simp) rfl
  (fun k _ => by letI : Rho := zE0 ρ k; exact zC5 zCq zOo 1000) (fun k _ => by letI : Rho := zE0 ρ k; exact zNW) (fun k _ => zMU ρ _) (fun k hk => ?_) ?_ (xAr ρ)
 ·rw [zQD];unfold xCz;have hm := q4 _ (zUp (k := k) q1 q3 (by omega))
  have e1 : (@Tm.den (zE0 ρ k) zTK).asB = true := by
   rw [zBw];show (k : Int) < (ρ.val 145).asI ∧ ¬ (ρ.val 145).asI ≤ (k : Int);omega
  have e2 : (@Tm.den (zE0 ρ k) zPd).asB = true := by
   rw [show zPd = .and xBE zTK from rfl, zCL]
   exact ⟨by rw [zAS]; show (0 : Int) ≤ (k : Int) ∧ ¬ (k : Int) < 0; omega, e1⟩
  have e3 : (@Tm.den (zE0 ρ k) zPc).asB = false := by
   rw [show zPc = .ib .gtr .i64 (.len (.lget xHl (.plus xHm zLv) 6)) xHk from rfl, zAO]
   show ((gS ((ρ.val 146).asL.getD ((ρ.val 144).asI + (k : Int)).toNat []) 6).length : Int) ≤ (ρ.val 149).asI ∧ ¬ _ < _;have := hm.1;refine ⟨by omega, ?_⟩
   show ¬ (ρ.val 149).asI < ((gS ((ρ.val 146).asL.getD ((ρ.val 144).asI + (k : Int)).toNat []) 6).length : Int);omega
  have e4 : (@Tm.den (zE0 ρ k) xER).asB = false := by
   rw [zEl]; exact hm.2
  rw [zMN e1, zMN e2, zCN e3, zCN e4];refine ⟨_, rfl, ?_, trivial⟩;show ((k + 1 : Nat) : Int) = IntKind.i64.wrap ((k : Int) + 1);rw [i64wrap (by omega) (by omega)]; rfl
 ·rw [zQD];unfold xCz;have e1 : (@Tm.den (zE0 ρ (ρ.val 145).asI.toNat) zTK).asB = false := by
   rw [zBV];show (ρ.val 145).asI ≤ (((ρ.val 145).asI.toNat : Nat) : Int) ∧ ¬ (((ρ.val 145).asI.toNat : Nat) : Int) < (ρ.val 145).asI;omega
  rw [zCN e1];exact ⟨_, rfl, trivial⟩
theorem xDa {w r : List UInt8} (h : r <+: w) : zBl w 0 (r.length : Int) = r := by
 obtain ⟨t, rfl⟩ := h;rw [zCZ, Int.toNat_natCast, List.take_left]
theorem zUt : zYp Tryz.prog fRi SRight 5120 0 fnC := by
 intro ρ hf hok;rw [show fnC (5120 + 0) (zFf ρ.val SRight.us) = .dB (decide (pairOk [ρ.val 21, ρ.val 35, ρ.val 38, ρ.val 29, ρ.val 33, ρ.val 89, ρ.val 103, ρ.val 106, ρ.val 97, ρ.val 101, ρ.val 136, ρ.val 137, ρ.val 138, ρ.val 139, ρ.val 140, ρ.val 141, ρ.val 142, ρ.val 143, ρ.val 144, ρ.val 145, ρ.val 146, ρ.val 149, ρ.val 153, ρ.val 154])) from by kernel_rfl, zEa, decide_eq_true_eq] at hok
 obtain ⟨hA, hB, hw1, hw0, hbad, r0, r1, hn1, hroom, hs0, hs1⟩ := hok;obtain ⟨a1, a2, a3, a4, a5, a6, a7⟩ : chOk (ρ.val 21).asI (ρ.val 35).asS (ρ.val 38).asS (ρ.val 29).asI (ρ.val 33).asI (ρ.val 153).asI (ρ.val 154).asI := hA;obtain ⟨b1, b2, b3, b4, b5, b6, b7⟩ : chOk (ρ.val 89).asI (ρ.val 103).asS (ρ.val 106).asS (ρ.val 97).asI (ρ.val 101).asI (ρ.val 153).asI (ρ.val 154).asI := hB;have r0 : zHL (ρ.val 143).asL (ρ.val 141).asI (ρ.val 142).asI (ρ.val 149).asI := r0;have r1 : zHL (ρ.val 146).asL (ρ.val 144).asI (ρ.val 145).asI (ρ.val 149).asI := r1;have hn1 : 0 ≤ (ρ.val 149).asI := hn1;have hs0 : (ρ.val 142).asI ≤ 100000 := hs0;have hs1 : (ρ.val 145).asI ≤ 100000 := hs1;have hroom : (ρ.val 154).asI ≤ 4096 := hroom;have hw1 : (ρ.val 138).asS <+: (ρ.val 136).asS := hw1;have hw0 : (ρ.val 139).asS <+: (ρ.val 137).asS := hw0;have hbad : (ρ.val 140).asB = false := hbad;have l1 := hw1.length_le;have l0 := hw0.length_le;refine ⟨xGo, zGR (fun f g h => zDB (zQp (ρ := ρ)) f g h) xIl (xGf (xD6 r0 hn1 hs0) (xD5 r1 hn1 hs1)), ?_⟩;rw [zXF];have w1 : IntKind.i64.wrap ((ρ.val 33).asI + ((ρ.val 38).asS.length : Int)) = (ρ.val 33).asI + ((ρ.val 38).asS.length : Int) := i64wrap (by omega) (by omega)
 have w2 : IntKind.i64.wrap ((ρ.val 101).asI + ((ρ.val 106).asS.length : Int)) = (ρ.val 101).asI + ((ρ.val 106).asS.length : Int) := i64wrap (by omega) (by omega)
 have G : ∀ x y : Tm, (@Tm.den ρ x).asI ≤ (@Tm.den ρ y).asI → (@Tm.den ρ (.ib .gtr .i64 x y)).asB = false := fun x y h => by rw [zAO]; exact ⟨h, Int.not_lt.2 h⟩
 have GL : ∀ x y : Tm, (@Tm.den ρ y).asI ≤ (@Tm.den ρ x).asI → (@Tm.den ρ (.ib .lss .i64 x y)).asB = false := fun x y h => by rw [zBV]; exact ⟨h, Int.not_lt.2 h⟩
 have AN : ∀ r w : Nat, ((ρ.val r).asS.length : Int) ≤ ((ρ.val w).asS.length : Int) → (@Tm.den ρ (.and (.ib .leq .i64 (.ci 0) (.len (vt r))) (.ib .leq .i64 (.len (vt r)) (.len (vt w))))).asB = true := fun r w h => by
  rw [zCL, zAS, zAS];refine ⟨⟨?_, ?_⟩, h, Int.not_lt.2 h⟩
  ·show (0 : Int) ≤ ((ρ.val r).asS.length : Int);omega
  ·show ¬ ((ρ.val r).asS.length : Int) < 0;omega
 have NE : ∀ r w : Nat, (ρ.val r).asS <+: (ρ.val w).asS → (@Tm.den ρ (.sb .neq (.cut (vt w) (.ci 0) (.len (vt r))) (vt r))).asB = false := fun r w h => by
  rw [xAp]; exact xDa h
 unfold xB0;rw [zCN (G (.len xB9) (.len xEJ) (show ((ρ.val 138).asS.length : Int) ≤ ((ρ.val 136).asS.length : Int) by omega)), zMN (show (@Tm.den ρ zSj).asB = true from AN 138 136 (by omega)), zCN (NE 138 136 hw1), zCN (G y21 y153 a1), zCN (G (.len y35) zOF a2), zCN (G (.len y38) zOF a3), zCN (GL y29 (.ci 0) a4), zCN (G y29 zOF a5),
  zCN (G (.ib .add .i64 y33 (.len y38)) zOF (by show IntKind.i64.wrap ((ρ.val 33).asI + ((ρ.val 38).asS.length : Int)) ≤ (ρ.val 154).asI; rw [w1]; exact a7)),
  zCN (G (.len xB8) (.len xEI) (show ((ρ.val 139).asS.length : Int) ≤ ((ρ.val 137).asS.length : Int) by omega)), zMN (show (@Tm.den ρ zSi).asB = true from AN 139 137 (by omega)), zCN (NE 139 137 hw0), zCN (G y89 y153 b1), zCN (G (.len zMA) zOF b2), zCN (G (.len zKe) zOF b3), zCN (GL y97 (.ci 0) b4), zCN (G y97 zOF b5),
  zCN (G (.ib .add .i64 y101 (.len zKe)) zOF (by show IntKind.i64.wrap ((ρ.val 101).asI + ((ρ.val 106).asS.length : Int)) ≤ (ρ.val 154).asI; rw [w2]; exact b7))]
 refine ⟨_, rfl, ?_, trivial⟩;show true = !(ρ.val 140).asB;rw [hbad]; rfl
end
end Go.Proofs.YtenkabjkgngcdaaGreat.Ab
