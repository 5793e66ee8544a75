/-
  A message's parts, in plain Lean: what is put of it is got as it was, and the other way round.
  Conditions: numbers lie within their types' bounds.
-/
import Derived.Test.YtamibbjpapkfeaaMsgH
import Derived.Test.YtamibbjpapkfeaaMscQ
namespace Go.Proofs.Ytamibbjpapkfeaa.Ab
set_option linter.unusedSimpArgs false
set_option linter.unusedVariables false
open Go
theorem pget_pput (x : Prm) (hx : x.ok) (h : pmay x = true) : pget (pput x).1 = (x, 0) := by
  obtain ⟨d, f, c, p, t1, n1, n2, k⟩ := x
  obtain ⟨⟨a0, a1⟩, ⟨a2, a3⟩, ⟨a4, a5⟩, a6, a7⟩ := hx
  have h' := h
  unfold pmay at h'
  simp only [decide_eq_true_eq] at h' a0 a1 a2 a3 a4 a5 a6 a7
  have e : pput ⟨d, f, c, p, t1, n1, n2, k⟩ = ([c8 d, c8 (16 * c + f), c8 p, c8 t1, c8 (n1 % 256), c8 (n1 / 256), c8 n2, c8 k], 0) := by
    unfold pput; rw [if_pos h]
  rw [e]
  have q : pdec (c8 d) (c8 (16 * c + f)) (c8 p) (c8 t1) (c8 (n1 % 256)) (c8 (n1 / 256)) (c8 n2) (c8 k) = ⟨d, f, c, p, t1, n1, n2, k⟩ := by
    unfold pdec
    rw [c8_nat d (by omega) (by omega), c8_nat (16 * c + f) (by omega) (by omega), c8_nat p (by omega) (by omega), c8_nat t1 (by omega) (by omega), c8_nat (n1 % 256) (by omega) (by omega), c8_nat (n1 / 256) (by omega) (by omega), c8_nat n2 (by omega) (by omega), c8_nat k (by omega) (by omega)]
    congr 1 <;> omega
  show (if pmay (pdec _ _ _ _ _ _ _ _) = true then _ else _) = _
  rw [q, if_pos h]
theorem c8_of (a : UInt8) (n : Int) (h : n = (a.toNat : Int)) : c8 n = a := by
  rw [h]
  show UInt8.ofNat ((a.toNat : Int).toNat) = a
  simp
theorem pget_cases (v : List UInt8) : pget v = (noPrm, 20) ∨ pget v = (noPrm, 70) ∨ ∃ x, pget v = (x, 0) ∧ pmay x = true ∧ pput x = (v, 0) ∧ x.ok ∧ v.length = 8 := by
  match v with
  | [a, b, c, d, e, f, g, h] =>
    by_cases hm : pmay (pdec a b c d e f g h) = true
    · refine .inr (.inr ⟨pdec a b c d e f g h, if_pos hm, hm, ?_, ?_, rfl⟩)
      · have ha := a.toNat_lt
        have hb := b.toNat_lt
        have he := e.toNat_lt
        have hf := f.toNat_lt
        unfold pput
        rw [if_pos hm]
        show ([c8 (a.toNat : Int), c8 (16 * ((b.toNat / 16 : Nat) : Int) + ((b.toNat % 16 : Nat) : Int)), c8 (c.toNat : Int), c8 (d.toNat : Int), c8 (((e.toNat + 256 * f.toNat : Nat) : Int) % 256), c8 (((e.toNat + 256 * f.toNat : Nat) : Int) / 256), c8 (g.toNat : Int), c8 (h.toNat : Int)], (0 : Int)) = _
        rw [c8_of a _ rfl, c8_of b _ (by omega), c8_of c _ rfl, c8_of d _ rfl, c8_of e _ (by omega), c8_of f _ (by omega), c8_of g _ rfl, c8_of h _ rfl]
      · have ha := a.toNat_lt
        have hb := b.toNat_lt
        have hc := c.toNat_lt
        refine ⟨⟨?_, ?_⟩, ⟨?_, ?_⟩, ⟨?_, ?_⟩, ?_, ?_⟩ <;> simp only [pdec] <;> omega
    · exact .inr (.inl (if_neg hm))
  | [] => exact .inl rfl
  | [_] => exact .inl rfl
  | [_, _] => exact .inl rfl
  | [_, _, _] => exact .inl rfl
  | [_, _, _, _] => exact .inl rfl
  | [_, _, _, _, _] => exact .inl rfl
  | [_, _, _, _, _, _] => exact .inl rfl
  | [_, _, _, _, _, _, _] => exact .inl rfl
  | _ :: _ :: _ :: _ :: _ :: _ :: _ :: _ :: _ :: _ => exact .inr (.inl rfl)
theorem pput_e (x : Prm) : ((pput x).2 == 0) = pmay x := by
  unfold pput; split <;> simp_all
def zPn (p : Prm) : Bool := p.d == 0 && (p.f == 0 && (p.c == 0 && (p.p == 0 && (p.t1 == 0 && (p.n1 == 0 && (p.n2 == 0 && p.k == 0))))))
def zSt (s : Stat) : Bool := s.d == 0 && (!s.fc && (!s.rtc && (!s.rtr && (!s.ic && (!s.dv && (!s.hb && s.br == 0))))))
def zTB (ty : Int) (b : List UInt8) : Bool := ty == 0 && b == []
theorem zPn_eq {p : Prm} (h : zPn p = true) : p = noPrm := by
  obtain ⟨d, f, c, p, t1, n1, n2, k⟩ := p
  simp only [zPn, Bool.and_eq_true, beq_iff_eq] at h
  simp [h]
theorem zSt_eq {s : Stat} (h : zSt s = true) : s = noStat := by
  obtain ⟨d, fc, rtc, rtr, ic, dv, hb, br⟩ := s
  simp only [zSt, Bool.and_eq_true, beq_iff_eq, Bool.not_eq_true'] at h
  simp [h]
theorem zTB_eq {ty : Int} {b : List UInt8} (h : zTB ty b = true) : ty = 0 ∧ b = [] := by
  simpa [zTB] using h
/-- A message's type, its value, and whether it may be. -/
def partsF (k : Int) (p : Prm) (s : Stat) (ty : Int) (b : List UInt8) : Int × List UInt8 × Bool :=
  if k = 1 then (32, (pput p).1, (pput p).2 == 0 && (zSt s && zTB ty b)) else if k = 2 then (56, (mput s).1, (mput s).2 == 0 && (zPn p && zTB ty b))
  else if k = 3 then (40, [], zPn p && (zSt s && zTB ty b)) else if k = 4 then (24, [], zPn p && (zSt s && zTB ty b)) else if k = 5 then (8, b, zPn p && (zSt s && ty == 0)) else if k = 6 then (48, [], zPn p && (zSt s && zTB ty b))
  else if k = 7 then (4, [c8 ty], zPn p && (zSt s && b == [])) else if k = 8 then (ty, b, (zPn p && zSt s) && (decide (ty < 64) && kindF ty == 8)) else (0, [], false)
abbrev pT (k : Int) (p : Prm) (s : Stat) (ty : Int) (b : List UInt8) : Int := (partsF k p s ty b).1
abbrev pV (k : Int) (p : Prm) (s : Stat) (ty : Int) (b : List UInt8) : List UInt8 := (partsF k p s ty b).2.1
abbrev pO (k : Int) (p : Prm) (s : Stat) (ty : Int) (b : List UInt8) : Bool := (partsF k p s ty b).2.2
/-- What a message is like that is put, or got. -/
structure Fit (p : Prm) (s : Stat) (ty : Int) (b : List UInt8) : Prop where
  p : p.ok
  d0 : 0 ≤ s.d
  d1 : s.d ≤ 255
  b0 : 0 ≤ s.br
  b1 : s.br ≤ 255
  t0 : 0 ≤ ty
  t1 : ty ≤ 255
section
variable {k : Int} {c : Bool} {p : Prm} {s : Stat} {ty : Int} {b : List UInt8}
theorem parts_le (hf : Fit p s ty b) (hb : b.length ≤ 127) (ho : pO k p s ty b = true) : 0 ≤ pT k p s ty b ∧ pT k p s ty b ≤ 63 ∧ (pV k p s ty b).length ≤ 127 := by
  unfold pO at ho
  unfold pT pV
  unfold partsF at ho ⊢
  have h1 : (pput p).1.length ≤ 127 := by unfold pput; split <;> simp
  have h2 : (mput s).1.length ≤ 127 := by have := mput_short s; omega
  have t0 := hf.t0
  have hnil : ([] : List UInt8).length ≤ 127 := by simp
  by_cases k1 : k = 1
  · rw [if_pos k1]; exact ⟨(by decide : (0:Int) ≤ 32), (by decide : (32:Int) ≤ 63), h1⟩
  by_cases k2 : k = 2
  · rw [if_neg k1, if_pos k2]; exact ⟨(by decide : (0:Int) ≤ 56), (by decide : (56:Int) ≤ 63), h2⟩
  by_cases k3 : k = 3
  · rw [if_neg k1, if_neg k2, if_pos k3]; exact ⟨(by decide : (0:Int) ≤ 40), (by decide : (40:Int) ≤ 63), hnil⟩
  by_cases k4 : k = 4
  · rw [if_neg k1, if_neg k2, if_neg k3, if_pos k4]; exact ⟨(by decide : (0:Int) ≤ 24), (by decide : (24:Int) ≤ 63), hnil⟩
  by_cases k5 : k = 5
  · rw [if_neg k1, if_neg k2, if_neg k3, if_neg k4, if_pos k5]; exact ⟨(by decide : (0:Int) ≤ 8), (by decide : (8:Int) ≤ 63), hb⟩
  by_cases k6 : k = 6
  · rw [if_neg k1, if_neg k2, if_neg k3, if_neg k4, if_neg k5, if_pos k6]; exact ⟨(by decide : (0:Int) ≤ 48), (by decide : (48:Int) ≤ 63), hnil⟩
  by_cases k7 : k = 7
  · rw [if_neg k1, if_neg k2, if_neg k3, if_neg k4, if_neg k5, if_neg k6, if_pos k7]; exact ⟨(by decide : (0:Int) ≤ 4), (by decide : (4:Int) ≤ 63), by simp⟩
  by_cases k8 : k = 8
  · rw [if_neg k1, if_neg k2, if_neg k3, if_neg k4, if_neg k5, if_neg k6, if_neg k7, if_pos k8] at ho ⊢
    simp only [Bool.and_eq_true, decide_eq_true_eq] at ho
    refine ⟨t0, ?_, hb⟩
    show ty ≤ 63
    omega
  · rw [if_neg k1, if_neg k2, if_neg k3, if_neg k4, if_neg k5, if_neg k6, if_neg k7, if_neg k8] at ho; cases ho
theorem parts_put (hf : Fit p s ty b) (hb : b.length ≤ 127) (ho : pO k p s ty b = true) : (tput (pT k p s ty b) c (pV k p s ty b)).2 = 0 := by
  obtain ⟨_, h1, h2⟩ := parts_le hf hb ho
  unfold tput
  rw [if_neg (by omega), if_neg (by omega)]
theorem mgot_of {x : List UInt8} {n : Int} (h : tget x = ⟨pT k p s ty b, c, pV k p s ty b, n, 0⟩) (hf : Fit p s ty b) (ho : pO k p s ty b = true) : mgot x = ⟨mrow k c p s ty b, n, 0⟩ := by
  unfold mgot
  rw [h]
  simp only [ne_eq, not_true_eq_false, if_false]
  unfold pO at ho
  unfold pT pV
  unfold partsF at ho ⊢
  by_cases h1 : k = 1
  · subst h1
    simp only [if_true, Bool.and_eq_true, pput_e] at ho ⊢
    obtain ⟨hm, hs, ht⟩ := ho
    obtain rfl := zSt_eq hs
    obtain ⟨rfl, rfl⟩ := zTB_eq ht
    rw [pget_pput p hf.p hm]
    rfl
  by_cases h2 : k = 2
  · subst h2
    simp only [if_true, if_neg (show ¬ (2:Int) = 1 by decide), Bool.and_eq_true, beq_iff_eq] at ho ⊢
    obtain ⟨hm, hs, ht⟩ := ho
    obtain rfl := zPn_eq hs
    obtain ⟨rfl, rfl⟩ := zTB_eq ht
    rw [mget_mput s hf.d0 hf.b0 hm]
    rfl
  rw [if_neg h1, if_neg h2] at ho ⊢
  by_cases h3 : k = 3
  · subst h3
    simp only [if_true, Bool.and_eq_true] at ho ⊢
    obtain ⟨hm, hs, ht⟩ := ho
    obtain rfl := zPn_eq hm
    obtain rfl := zSt_eq hs
    obtain ⟨rfl, rfl⟩ := zTB_eq ht
    rfl
  by_cases h4 : k = 4
  · subst h4
    simp only [if_true, if_neg h3, Bool.and_eq_true] at ho ⊢
    obtain ⟨hm, hs, ht⟩ := ho
    obtain rfl := zPn_eq hm
    obtain rfl := zSt_eq hs
    obtain ⟨rfl, rfl⟩ := zTB_eq ht
    rfl
  rw [if_neg h3, if_neg h4] at ho ⊢
  by_cases h5 : k = 5
  · subst h5
    simp only [if_true, Bool.and_eq_true, beq_iff_eq] at ho ⊢
    obtain ⟨hm, hs, rfl⟩ := ho
    obtain rfl := zPn_eq hm
    obtain rfl := zSt_eq hs
    rfl
  by_cases h6 : k = 6
  · subst h6
    simp only [if_true, if_neg h5, Bool.and_eq_true] at ho ⊢
    obtain ⟨hm, hs, ht⟩ := ho
    obtain rfl := zPn_eq hm
    obtain rfl := zSt_eq hs
    obtain ⟨rfl, rfl⟩ := zTB_eq ht
    rfl
  rw [if_neg h5, if_neg h6] at ho ⊢
  by_cases h7 : k = 7
  · subst h7
    simp only [if_true, Bool.and_eq_true, beq_iff_eq] at ho ⊢
    obtain ⟨hm, hs, rfl⟩ := ho
    obtain rfl := zPn_eq hm
    obtain rfl := zSt_eq hs
    have e : octAt [c8 ty] 0 = ty := by
      show ((c8 ty).toNat : Int) = ty
      rw [c8_nat ty hf.t0 hf.t1]
      have := hf.t0
      omega
    show (⟨mrow 7 c noPrm noStat (octAt [c8 ty] 0) [], n, 0⟩ : MGot) = _
    rw [e]
  rw [if_neg h7] at ho ⊢
  by_cases h8 : k = 8
  · subst h8
    simp only [if_true, Bool.and_eq_true, decide_eq_true_eq, beq_iff_eq] at ho ⊢
    obtain ⟨⟨hm, hs⟩, _, hk⟩ := ho
    obtain rfl := zPn_eq hm
    obtain rfl := zSt_eq hs
    rw [hk]
    rfl
  · rw [if_neg h8] at ho; cases ho
theorem mgot_put (hf : Fit p s ty b) (hb : b.length ≤ 127) (ho : pO k p s ty b = true) (rest : List UInt8) : mgot ((tput (pT k p s ty b) c (pV k p s ty b)).1 ++ rest) = ⟨mrow k c p s ty b, ((tput (pT k p s ty b) c (pV k p s ty b)).1.length : Nat), 0⟩ :=
  mgot_of (tget_tput _ c _ rest (parts_le hf hb ho).1 (parts_put hf hb ho)) hf ho
/-- The first octet. -/
theorem put_head (hf : Fit p s ty b) (hb : b.length ≤ 127) (ho : pO k p s ty b = true) : 2 ≤ (tput (pT k p s ty b) c (pV k p s ty b)).1.length ∧ (tput (pT k p s ty b) c (pV k p s ty b)).1.length ≤ 129 ∧ octAt (tput (pT k p s ty b) c (pV k p s ty b)).1 0 = 4 * pT k p s ty b + (if c then 3 else 1) := by
  obtain ⟨h0, h1, h2⟩ := parts_le hf hb ho
  have e : (tput (pT k p s ty b) c (pV k p s ty b)).1 = c8 (4 * pT k p s ty b + 1 + (if c then 2 else 0)) :: c8 (2 * ((pV k p s ty b).length : Int) + 1) :: pV k p s ty b := by
    unfold tput
    rw [if_neg (by omega), if_neg (by omega)]
  rw [e]
  refine ⟨by simp, by simp; omega, ?_⟩
  show ((c8 (4 * pT k p s ty b + 1 + (if c then 2 else 0))).toNat : Int) = _
  cases c
  · rw [c8_nat _ (by simp; omega) (by simp; omega)]; simp; omega
  · rw [c8_nat _ (by simp; omega) (by simp; omega)]; simp; omega
end
theorem mgot_bad {s : List UInt8} (h : (mgot s).e ≠ 0) : (mgot s).row = mrow 0 false noPrm noStat 0 [] ∧ (mgot s).n = 0 := by
  unfold mgot at h ⊢
  repeat' split at h
  all_goals first
    | exact absurd rfl h
    | skip
  all_goals simp_all [noMsg]
theorem kindF_inv (t : Int) : (kindF t = 1 → t = 32) ∧ (kindF t = 2 → t = 56) ∧ (kindF t = 3 → t = 40) ∧ (kindF t = 4 → t = 24) ∧ (kindF t = 5 → t = 8) ∧ (kindF t = 6 → t = 48) ∧ (kindF t = 7 → t = 4) := by
  unfold kindF
  repeat' split
  all_goals refine ⟨?_, ?_, ?_, ?_, ?_, ?_, ?_⟩ <;> intro h <;> first | assumption | exact absurd h (by decide)
theorem noPrm_ok : noPrm.ok := ⟨⟨by decide, by decide⟩, ⟨by decide, by decide⟩, ⟨by decide, by decide⟩, by decide, by decide⟩
theorem fitN {ty : Int} (b : List UInt8) (h0 : 0 ≤ ty) (h1 : ty ≤ 255) : Fit noPrm noStat ty b := ⟨noPrm_ok, by decide, by decide, by decide, by decide, h0, h1⟩
/-- What is got is put as it was. -/
theorem parts_got (s : List UInt8) (h : (mgot s).e = 0) : ∃ k c p m t b, (mgot s).row = mrow k c p m t b ∧ Fit p m t b ∧ (0 ≤ k ∧ k ≤ 8) ∧ b.length ≤ 127 ∧ pO k p m t b = true ∧ tput (pT k p m t b) c (pV k p m t b) = (s.take (mgot s).n.toNat, 0) ∧ 2 ≤ (mgot s).n ∧ (mgot s).n ≤ (s.length : Int) := by
  rcases tput_tget s with hb | ⟨g0, g1, g2, g3, g4, g5, g6⟩
  · exfalso
    have hne : (tget s).e ≠ 0 := by rcases hb with hb | hb <;> rw [hb] <;> decide
    have hm : mgot s = noMsg (tget s).e := if_pos hne
    rw [hm] at h; exact hne h
  have hm0 : mgot s = (if kindF (tget s).k = 1 then (if (pget (tget s).v).2 ≠ 0 then noMsg 70 else ⟨mrow 1 (tget s).c (pget (tget s).v).1 noStat 0 [], (tget s).n, 0⟩)
      else if kindF (tget s).k = 2 then (if (mget (tget s).v).2 ≠ 0 then noMsg 70 else ⟨mrow 2 (tget s).c noPrm (mget (tget s).v).1 0 [], (tget s).n, 0⟩)
      else if kindF (tget s).k = 5 then ⟨mrow 5 (tget s).c noPrm noStat 0 (tget s).v, (tget s).n, 0⟩
      else if kindF (tget s).k = 7 then (if (tget s).v.length = 1 then ⟨mrow 7 (tget s).c noPrm noStat (octAt (tget s).v 0) [], (tget s).n, 0⟩ else noMsg 70)
      else if kindF (tget s).k = 8 then ⟨mrow 8 (tget s).c noPrm noStat (tget s).k (tget s).v, (tget s).n, 0⟩
      else if (tget s).v ≠ [] then noMsg 70 else ⟨mrow (kindF (tget s).k) (tget s).c noPrm noStat 0 [], (tget s).n, 0⟩) := if_neg (by rw [g0]; simp)
  obtain ⟨i1, i2, i3, i4, i5, i6, i7⟩ := kindF_inv (tget s).k
  by_cases k1 : kindF (tget s).k = 1
  · rw [if_pos k1] at hm0
    by_cases hp : (pget (tget s).v).2 ≠ 0
    · rw [if_pos hp] at hm0; rw [hm0] at h; exact absurd h (by decide)
    rw [if_neg hp] at hm0
    rcases pget_cases (tget s).v with hq | hq | ⟨x, hq, hx, hy, ho, _⟩
    · rw [hq] at hp; exact absurd (by decide) hp
    · rw [hq] at hp; exact absurd (by decide) hp
    rw [hq] at hm0
    rw [hm0]
    refine ⟨1, (tget s).c, x, noStat, 0, [], rfl, ⟨ho, by decide, by decide, by decide, by decide, by decide, by decide⟩, ⟨by decide, by decide⟩, by simp, ?_, ?_, g4, g5⟩
    · show ((pput x).2 == 0 && (zSt noStat && zTB 0 [])) = true
      rw [hy]; rfl
    · show tput 32 (tget s).c (pput x).1 = _
      rw [hy, ← i1 k1]; exact g6
  rw [if_neg k1] at hm0
  by_cases k2 : kindF (tget s).k = 2
  · rw [if_pos k2] at hm0
    by_cases hp : (mget (tget s).v).2 ≠ 0
    · rw [if_pos hp] at hm0; rw [hm0] at h; exact absurd h (by decide)
    rw [if_neg hp] at hm0
    rcases mget_cases (tget s).v with hq | hq | ⟨x, hq, hy, d0, d1, b0, b1⟩
    · rw [hq] at hp; exact absurd (by decide) hp
    · rw [hq] at hp; exact absurd (by decide) hp
    rw [hq] at hm0
    rw [hm0]
    refine ⟨2, (tget s).c, noPrm, x, 0, [], rfl, ⟨noPrm_ok, d0, d1, b0, b1, by decide, by decide⟩, ⟨by decide, by decide⟩, by simp, ?_, ?_, g4, g5⟩
    · show ((mput x).2 == 0 && (zPn noPrm && zTB 0 [])) = true
      rw [hy]; rfl
    · show tput 56 (tget s).c (mput x).1 = _
      rw [hy, ← i2 k2]; exact g6
  rw [if_neg k2] at hm0
  by_cases k5 : kindF (tget s).k = 5
  · rw [if_pos k5] at hm0
    rw [hm0]
    refine ⟨5, (tget s).c, noPrm, noStat, 0, (tget s).v, rfl, fitN _ (by decide) (by decide), ⟨by decide, by decide⟩, g3, rfl, ?_, g4, g5⟩
    show tput 8 (tget s).c (tget s).v = _
    rw [← i5 k5]; exact g6
  rw [if_neg k5] at hm0
  by_cases k7 : kindF (tget s).k = 7
  · rw [if_pos k7] at hm0
    by_cases hp : (tget s).v.length = 1
    · rw [if_pos hp] at hm0
      rw [hm0]
      match hv : (tget s).v, hp with
      | [x], _ =>
        have hx := x.toNat_lt
        have e : octAt [x] 0 = (x.toNat : Int) := rfl
        refine ⟨7, (tget s).c, noPrm, noStat, octAt [x] 0, [], rfl, fitN _ (by rw [e]; omega) (by rw [e]; omega), ⟨by decide, by decide⟩, by simp, rfl, ?_, g4, g5⟩
        show tput 4 (tget s).c [c8 (octAt [x] 0)] = _
        rw [c8_of x (octAt [x] 0) rfl, ← hv, ← i7 k7]; exact g6
    · rw [if_neg hp] at hm0; rw [hm0] at h; exact absurd h (by decide)
  rw [if_neg k7] at hm0
  by_cases k8 : kindF (tget s).k = 8
  · rw [if_pos k8] at hm0
    rw [hm0]
    refine ⟨8, (tget s).c, noPrm, noStat, (tget s).k, (tget s).v, rfl, fitN _ g1 (by omega), ⟨by decide, by decide⟩, g3, ?_, g6, g4, g5⟩
    show (true && (decide ((tget s).k < 64) && kindF (tget s).k == 8)) = true
    rw [k8, decide_eq_true (by omega)]; rfl
  rw [if_neg k8] at hm0
  by_cases hp : (tget s).v ≠ []
  · rw [if_pos hp] at hm0; rw [hm0] at h; exact absurd h (by decide)
  rw [if_neg hp] at hm0
  have hv : (tget s).v = [] := Classical.not_not.1 hp
  rw [hm0]
  rw [hv] at g6
  rcases kindF_cases (tget s).k with q | q | q | q | q | q | q | q
  · exact absurd q k1
  · exact absurd q k2
  · rw [q]
    refine ⟨3, (tget s).c, noPrm, noStat, 0, [], rfl, fitN _ (by decide) (by decide), ⟨by decide, by decide⟩, by simp, rfl, ?_, g4, g5⟩
    show tput 40 (tget s).c [] = _
    rw [← i3 q]; exact g6
  · rw [q]
    refine ⟨4, (tget s).c, noPrm, noStat, 0, [], rfl, fitN _ (by decide) (by decide), ⟨by decide, by decide⟩, by simp, rfl, ?_, g4, g5⟩
    show tput 24 (tget s).c [] = _
    rw [← i4 q]; exact g6
  · exact absurd q k5
  · rw [q]
    refine ⟨6, (tget s).c, noPrm, noStat, 0, [], rfl, fitN _ (by decide) (by decide), ⟨by decide, by decide⟩, by simp, rfl, ?_, g4, g5⟩
    show tput 48 (tget s).c [] = _
    rw [← i6 q]; exact g6
  · exact absurd q k7
  · exact absurd q k8
/-! ### rows -/
abbrev rK (r : List Dat) : Int := (r.getD 0 (.dI 0)).asI
abbrev rC (r : List Dat) : Bool := (r.getD 1 (.dI 0)).asB
abbrev rP (r : List Dat) : Prm := ⟨(r.getD 2 (.dI 0)).asI, (r.getD 3 (.dI 0)).asI, (r.getD 4 (.dI 0)).asI, (r.getD 5 (.dI 0)).asI, (r.getD 6 (.dI 0)).asI, (r.getD 7 (.dI 0)).asI, (r.getD 8 (.dI 0)).asI, (r.getD 9 (.dI 0)).asI⟩
abbrev rS (r : List Dat) : Stat := ⟨(r.getD 10 (.dI 0)).asI, (r.getD 11 (.dI 0)).asB, (r.getD 12 (.dI 0)).asB, (r.getD 13 (.dI 0)).asB, (r.getD 14 (.dI 0)).asB, (r.getD 15 (.dI 0)).asB, (r.getD 16 (.dI 0)).asB, (r.getD 17 (.dI 0)).asI⟩
abbrev rT (r : List Dat) : Int := (r.getD 18 (.dI 0)).asI
abbrev rB (r : List Dat) : List UInt8 := (r.getD 19 (.dI 0)).asS
/-- A row's type, value, and whether it may be. -/
def parR (r : List Dat) : Int × List UInt8 × Bool := partsF (rK r) (rP r) (rS r) (rT r) (rB r)
abbrev okR (r : List Dat) : Bool := (parR r).2.2
abbrev putR (r : List Dat) : List UInt8 := (tput (parR r).1 (rC r) (parR r).2.1).1
/-- A row is a message. -/
def RowM (r : List Dat) : Prop := ∃ k c p m t b, r = mrow k c p m t b ∧ Fit p m t b ∧ 0 ≤ k ∧ k ≤ 255
theorem row_par {r : List Dat} (h : RowM r) (hb : (rB r).length ≤ 127) (ho : okR r = true) : (0 ≤ (parR r).1 ∧ (parR r).1 ≤ 63) ∧ (parR r).2.1.length ≤ 127 ∧ (tput (parR r).1 (rC r) (parR r).2.1).2 = 0 ∧
    (2 ≤ (putR r).length ∧ (putR r).length ≤ 129) ∧ octAt (putR r) 0 = 4 * (parR r).1 + (if rC r then 3 else 1) ∧ ∀ rest, mgot (putR r ++ rest) = ⟨r, ((putR r).length : Nat), 0⟩ := by
  obtain ⟨k, c, p, m, t, b, rfl, hf, _, _⟩ := h
  obtain ⟨h1, h2, h3⟩ := parts_le (k := k) (p := p) (s := m) (ty := t) hf hb ho
  obtain ⟨h4, h5, h6⟩ := put_head (k := k) (c := c) (p := p) (s := m) (ty := t) hf hb ho
  exact ⟨⟨h1, h2⟩, h3, parts_put (c := c) hf hb ho, ⟨h4, h5⟩, h6, fun rest => mgot_put (c := c) hf hb ho rest⟩
theorem row_got {s : List UInt8} (h : (mgot s).e = 0) : RowM (mgot s).row ∧ okR (mgot s).row = true ∧ (0 ≤ (parR (mgot s).row).1 ∧ (parR (mgot s).row).1 ≤ 63) ∧ (parR (mgot s).row).2.1.length ≤ 127 ∧
    tput (parR (mgot s).row).1 (rC (mgot s).row) (parR (mgot s).row).2.1 = (s.take (mgot s).n.toNat, 0) ∧ 2 ≤ (mgot s).n ∧ (mgot s).n ≤ (s.length : Int) := by
  obtain ⟨k, c, p, m, t, b, e, hf, ⟨k0, k1⟩, hb, ho, hp, n0, n1⟩ := parts_got s h
  rw [e]
  obtain ⟨h1, h2, h3⟩ := parts_le (k := k) (p := p) (s := m) (ty := t) hf hb ho
  exact ⟨⟨k, c, p, m, t, b, rfl, hf, k0, by omega⟩, ho, ⟨h1, h2⟩, h3, hp, n0, n1⟩
end Go.Proofs.Ytamibbjpapkfeaa.Ab
