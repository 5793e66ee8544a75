/-
  What is put of a status is got as it was, and the other way round.
  No condition but a number's bounds.
-/
import Derived.Test.YtamibbjpapkfeaaMscP
namespace Go.Proofs.Ytamibbjpapkfeaa
set_option linter.unusedSimpArgs false
set_option linter.unusedVariables false
open Go.RowKit

theorem mget_cases (v : List UInt8) : mget v = (noStat, 20) ∨ mget v = (noStat, 70) ∨ ∃ s, mget v = (s, 0) ∧ mput s = (v, 0) ∧ 0 ≤ s.d ∧ s.d ≤ 255 ∧ 0 ≤ s.br ∧ s.br ≤ 255 := by
  have key : ∀ (l : List UInt8) (s : Stat), l ≠ [] → 0 ≤ s.d → s.d ≤ 255 → 0 ≤ s.br → s.br ≤ 255 → chk l s = (noStat, 70) ∨ ∃ s', chk l s = (s', 0) ∧ mput s' = (l, 0) ∧ 0 ≤ s'.d ∧ s'.d ≤ 255 ∧ 0 ≤ s'.br ∧ s'.br ≤ 255 := fun l s hl h1 h2 h3 h4 => by
    unfold chk
    split
    · rename_i h
      refine .inr ⟨s, rfl, ?_, h1, h2, h3, h4⟩
      have e : (mput s).1 = l := by simpa using h
      have : (mput s).2 = 0 := by
        unfold mput at e ⊢
        split at e
        · exact absurd e.symm hl
        · rename_i hn
          rw [if_neg hn]
          cases s.hb <;> rfl
      rw [← e, ← this]
    · exact .inl rfl
  match v with
  | [] => exact .inl rfl
  | [_] => exact .inl rfl
  | x :: y :: r =>
    have hb := spl_bd (x.toNat : Int) (by omega) (by have := x.toNat_lt; omega)
    rcases hy : ((y.toNat : Int) % 2 == 1) with _ | _
    · match r with
      | [] => exact .inl (by simp only [mget, hy]; rfl)
      | z :: r =>
        have hz := z.toNat_lt
        have := key (x :: y :: z :: r) (mdec x y true ((z.toNat : Int) / 16)) (by simp) hb.1 hb.2 (by simp only [mdec]; omega) (by simp only [mdec]; omega)
        rw [show mget (x :: y :: z :: r) = chk (x :: y :: z :: r) (mdec x y true ((z.toNat : Int) / 16)) by simp only [mget, hy, Bool.false_eq_true, if_false]]
        exact .inr this
    · have := key (x :: y :: r) (mdec x y false 0) (by simp) hb.1 hb.2 (by simp [mdec]) (by simp [mdec])
      rw [show mget (x :: y :: r) = chk (x :: y :: r) (mdec x y false 0) by simp only [mget, hy, if_true]]
      exact .inr this
theorem spl_adr (d : Int) (h0 : 0 ≤ d) (h1 : d ≤ 63) : (spl ((b8 (adr d true)).toNat : Int)).1 = d := by
  have h : ∀ n : Fin 64, (spl ((b8 (adr (n.val : Int) true)).toNat : Int)).1 = (n.val : Int) := by decide +kernel
  have := h ⟨d.toNat, by omega⟩
  rw [show ((⟨d.toNat, by omega⟩ : Fin 64).val : Int) = d by simp; omega] at this
  exact this
theorem bits_got (fc rtc rtr ic dv : Bool) : ∀ s : Stat, s.fc = fc → s.rtc = rtc → s.rtr = rtr → s.ic = ic → s.dv = dv →
    bitOf (b8 (mbits s)) 1 = fc ∧ bitOf (b8 (mbits s)) 2 = rtc ∧ bitOf (b8 (mbits s)) 3 = rtr ∧ bitOf (b8 (mbits s)) 6 = ic ∧ bitOf (b8 (mbits s)) 7 = dv ∧ (((b8 (mbits s)).toNat : Int) % 2 == 1) = true ∧
    bitOf (b8 (mbits s - 1)) 1 = fc ∧ bitOf (b8 (mbits s - 1)) 2 = rtc ∧ bitOf (b8 (mbits s - 1)) 3 = rtr ∧ bitOf (b8 (mbits s - 1)) 6 = ic ∧ bitOf (b8 (mbits s - 1)) 7 = dv ∧ (((b8 (mbits s - 1)).toNat : Int) % 2 == 1) = false := by
  intro s e1 e2 e3 e4 e5
  have : mbits s = 1 + bitI fc 2 + bitI rtc 4 + bitI rtr 8 + bitI ic 64 + bitI dv 128 := by unfold mbits; rw [e1, e2, e3, e4, e5]
  rw [this]
  clear this e1 e2 e3 e4 e5 s
  revert fc rtc rtr ic dv
  decide +kernel
theorem mget_mput (s : Stat) (h0 : 0 ≤ s.d) (b0 : 0 ≤ s.br) (h : (mput s).2 = 0) : mget (mput s).1 = (s, 0) := by
  obtain ⟨d, fc, rtc, rtr, ic, dv, hb, br⟩ := s
  obtain ⟨g1, g2, g3, g4, g5, g6, k1, k2, k3, k4, k5, k6⟩ := bits_got fc rtc rtr ic dv ⟨d, fc, rtc, rtr, ic, dv, hb, br⟩ rfl rfl rfl rfl rfl
  simp only at h0 b0
  have hc : ¬ (63 < d ∨ 15 < br ∨ (0 < br ∧ hb = false)) := fun hc => by
    unfold mput at h
    rw [if_pos hc] at h; cases h
  have hd := spl_adr d h0 (by omega)
  cases hb with
  | false =>
    have hbr : br = 0 := by simp at hc; omega
    subst hbr
    have e : mput ⟨d, fc, rtc, rtr, ic, dv, false, 0⟩ = ([b8 (adr d true), b8 (mbits ⟨d, fc, rtc, rtr, ic, dv, false, 0⟩)], 0) := by
      unfold mput; rw [if_neg hc, if_neg (by simp)]
    rw [e]
    show mget [b8 (adr d true), b8 (mbits ⟨d, fc, rtc, rtr, ic, dv, false, 0⟩)] = _
    have em : mdec (b8 (adr d true)) (b8 (mbits ⟨d, fc, rtc, rtr, ic, dv, false, 0⟩)) false 0 = ⟨d, fc, rtc, rtr, ic, dv, false, 0⟩ := by
      unfold mdec; rw [hd, g1, g2, g3, g4, g5]
    simp only [mget, g6, if_true, em, chk, e, beq_self_eq_true]
  | true =>
    have hbr : br ≤ 15 := by omega
    have e : mput ⟨d, fc, rtc, rtr, ic, dv, true, br⟩ = ([b8 (adr d true), b8 (mbits ⟨d, fc, rtc, rtr, ic, dv, true, br⟩ - 1), b8 (3 + 16 * br)], 0) := by
      unfold mput; rw [if_neg hc, if_pos (by rfl)]
    rw [e]
    show mget [b8 (adr d true), b8 (mbits ⟨d, fc, rtc, rtr, ic, dv, true, br⟩ - 1), b8 (3 + 16 * br)] = _
    have hz : ((b8 (3 + 16 * br)).toNat : Int) / 16 = br := by rw [b8_toNat (by omega) (by omega)]; omega
    have em : mdec (b8 (adr d true)) (b8 (mbits ⟨d, fc, rtc, rtr, ic, dv, true, br⟩ - 1)) true br = ⟨d, fc, rtc, rtr, ic, dv, true, br⟩ := by
      unfold mdec; rw [hd, k1, k2, k3, k4, k5]
    simp only [mget, k6, Bool.false_eq_true, if_false, hz, em, chk, e, beq_self_eq_true, if_true]
theorem mput_inj (s t : Stat) (h0 : 0 ≤ s.d) (b0 : 0 ≤ s.br) (k0 : 0 ≤ t.d) (c0 : 0 ≤ t.br) (h : (mput s).2 = 0) (k : (mput t).2 = 0) : ((mput s).1 = (mput t).1) ↔ s = t := by
  constructor
  · intro e
    have h1 := mget_mput s h0 b0 h
    have h2 := mget_mput t k0 c0 k
    rw [e, h2] at h1
    exact (Prod.mk.inj h1).1.symm
  · rintro rfl; rfl
theorem mput_short (s : Stat) : (mput s).1.length ≤ 3 := by
  unfold mput; split
  · simp
  · split <;> simp
end Go.Proofs.Ytamibbjpapkfeaa
