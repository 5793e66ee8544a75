import Derived.Test.YtamibbjpapkfeaaAbS5
namespace Go.Proofs.Ytamibbjpapkfeaa.Ab
set_option linter.unusedSimpArgs false
set_option linter.unusedVariables false
open Go
set_option linter.unusedSectionVars false
variable [Rho]
section
variable {P : Program}

/-- The first value whose test holds. -/
def pickM : List (Tm × AV) → Option AV
  | [] => none
  | p :: l => bif p.1.den.asB then some p.2 else pickM l
theorem insideT_den {n m : Tm} (h : (insideT n m).den.asB = true) : 0 ≤ n.den.asI ∧ n.den.asI < m.den.asI := by
  unfold insideT at h
  rw [andT_den, iopT_den, iopT_den, Bool.and_eq_true] at h
  exact ⟨of_decide_eq_true h.1, of_decide_eq_true h.2⟩
theorem withinT_den {lo hi len : Tm} (h : (withinT lo hi len).den.asB = true) : 0 ≤ lo.den.asI ∧ lo.den.asI ≤ hi.den.asI ∧ hi.den.asI ≤ len.den.asI := by
  unfold withinT at h
  rw [andT_den, andT_den, iopT_den, iopT_den, iopT_den, Bool.and_eq_true, Bool.and_eq_true] at h
  exact ⟨of_decide_eq_true h.1.1, of_decide_eq_true h.1.2, of_decide_eq_true h.2⟩
theorem lenT_int (x : Tm) : (lenT x).den.asI = (x.den.asS.length : Int) := by rw [lenT_den]; rfl
theorem indexM_run {t : TypeId} {x i v : AV} {o : Tm} (h : indexM P t x i = some (o, v)) {μ : Mu} {c j : Value} (hx : VR μ x c) (hi : VR μ i j) (ho : o.den.asB = true) (w : World) : ∃ y, (Instr.index t c j).run P w = .ok y w ∧ VR μ v y := by
  unfold indexM at h
  cases hs : (isSym x || isSym i) with
  | false => simp [hs] at h
  | true =>
    simp only [hs, cond_true] at h
    split at h
    · rename_i k n s hn ht hs'
      cases h
      obtain ⟨h1, h2⟩ := insideT_den ho
      rw [lenT_int] at h2
      cases hx.tmS hs'; cases hi.tmI hn
      obtain ⟨b, hb⟩ : ∃ b, s.den.asS[n.den.asI.toNat]? = some b := ⟨_, List.getElem?_eq_getElem (by omega)⟩
      have hA : indexA P t (.str s.den.asS) (.int k n.den.asI) = some (.int .u8 (b.toNat : Int)) := by
        simp [indexA, ht, h1, hb]
      obtain ⟨y, e1, e2⟩ := indexA_run (P := P) hA (μ := μ) (c := .string ⟨s.den.asS.toArray⟩) (j := .int k n.den.asI) rfl rfl w
      refine ⟨y, e1, ?_⟩
      cases e2
      show Value.int .u8 (b.toNat : Int) = .int .u8 (octAt s.den.asS n.den.asI.toNat)
      simp [octAt, List.getD_eq_getElem?_getD, hb]
    · cases h
theorem places_pick (f : Nat → AV) (n : Tm) : ∀ (m : Nat) (l : List (Tm × AV)) (v : AV), pickM (places f n m l) = some v → (∃ j, j < m ∧ n.den.asI = (j : Int) ∧ v = f j) ∨ ((∀ j : Nat, j < m → n.den.asI ≠ (j : Int)) ∧ pickM l = some v)
  | 0, l, v, h => .inr ⟨fun j hj => absurd hj (Nat.not_lt_zero _), h⟩
  | m + 1, l, v, h => by
    rcases places_pick f n m _ v h with ⟨j, h1, h2, h3⟩ | ⟨h1, h2⟩
    · exact .inl ⟨j, by omega, h2, h3⟩
    · simp only [pickM] at h2
      rw [iopT_den] at h2
      cases hc : (iop .eql .i64 n.den.asI (Tm.ci (m : Int)).den.asI).asB with
      | true =>
        rw [hc] at h2
        simp at h2
        have : n.den.asI = (m : Int) := by
          have hd : (n.den.asI == (m : Int)) = true := hc
          exact eq_of_beq hd
        exact .inl ⟨m, by omega, this, h2.symm⟩
      | false =>
        rw [hc] at h2
        simp at h2
        have : n.den.asI ≠ (m : Int) := by
          have hd : (n.den.asI == (m : Int)) = false := hc
          exact fun e => by rw [e] at hd; simp at hd
        refine .inr ⟨fun j hj => ?_, h2⟩
        by_cases e : j = m
        · subst e; exact this
        · exact h1 j (by omega)
theorem indexAddrM_run {t : TypeId} {x i v : AV} {o : List (Tm × AV)} (h : indexAddrM P t x i = some o) (hv : pickM o = some v) {μ : Mu} {c j : Value} (hx : VR μ x c) (hi : VR μ i j) (w : World) : ∃ y, (Instr.indexAt t c j).run P w = .ok y w ∧ VR μ v y := by
  unfold indexAddrM at h
  split at h
  · rename_i id off
    split at h
    · rename_i k n len e ht
      split at h
      · rename_i m hm
        cases h
        rcases places_pick _ _ _ _ _ hv with ⟨q, q1, q2, rfl⟩ | ⟨_, q2⟩
        · cases hi
          have hA : indexAddrA P t (.ptr id off) (.int k n.den.asI) = some (.ptr id (off + q * m)) := by
            simp only [indexAddrA, ht, hm, q2]
            rw [if_pos ⟨by omega, by omega⟩]; simp
          exact indexAddrA_run hA hx rfl w
        · cases q2
      · cases h
    · cases h
  · rename_i id off len cap
    split at h
    · rename_i k n e ht
      split at h
      · rename_i m hm
        cases h
        rcases places_pick _ _ _ _ _ hv with ⟨q, q1, q2, rfl⟩ | ⟨_, q2⟩
        · cases hi
          have hA : indexAddrA P t (.slice id off len cap) (.int k n.den.asI) = some (.ptr id (off + q * m)) := by
            simp only [indexAddrA, ht, hm, q2]
            rw [if_pos ⟨by omega, by omega⟩]; simp
          exact indexAddrA_run hA hx rfl w
        · cases q2
      · cases h
    · cases h
  · rename_i id k off len
    split at h
    · rename_i kd n e hn ht
      split at h
      · rename_i hk
        cases h
        simp only [pickM] at hv
        cases hc : (insideT n len).den.asB with
        | false => rw [hc] at hv; simp at hv
        | true =>
          rw [hc] at hv; simp at hv; subst hv
          obtain ⟨b1, b2⟩ := insideT_den hc
          cases hi.tmI hn
          obtain ⟨l, h1, h2, h3, h4, h5, ⟨h6, h6'⟩, h7⟩ := hx
          have hp : (plusT off n).den.asI = off.den.asI + n.den.asI := plusT_den off n
          have htn : (off.den.asI + n.den.asI).toNat = off.den.asI.toNat + n.den.asI.toNat := by omega
          rcases h7 with rfl | ⟨h0, _⟩
          · refine ⟨.pointer (some ⟨l.b, l.s + (off.den.asI.toNat * k + n.den.asI.toNat * k), none⟩), ?_, l, h1, h2, by rw [hp]; omega, ?_, ?_⟩
            · have hb : 0 ≤ n.den.asI ∧ n.den.asI < ((len.den.asI.toNat : Nat) : Int) := ⟨b1, by omega⟩
              simp only [Instr.indexAt, asIntOf, Sem.run_bind, Sem.run_pure, run_underlying ht, Result.andThen_ok, if_pos hb, szOf_run hk, Sem.run_ite, add_addr]
              simp only [Nat.add_assoc]
            · rw [hp, htn]
              refine Nat.le_trans ?_ h6
              rw [← Nat.succ_mul]
              exact Nat.mul_le_mul_right k (by omega)
            · rw [hp, htn, Nat.add_mul]; simp
          · omega
      · cases h
    · cases h
  · cases h
/-- A bound, as a number. -/
theorem bound_sym {d : Tm} {x : Option AV} {t : Tm} (h : tmO d x = some t) {μ : Mu} {c : Option Value} (hx : VO μ x c) : (x = none ∧ c = none ∧ t = d) ∨ ∃ k, c = some (.int k t.den.asI) := by
  cases x with
  | none =>
    cases c with
    | none => simp [tmO] at h; exact .inl ⟨rfl, rfl, h.symm⟩
    | some _ => exact hx.elim
  | some v =>
    cases c with
    | none => exact hx.elim
    | some c =>
      simp only [tmO] at h
      split at h
      · rename_i k n hn
        cases h
        exact .inr ⟨k, by rw [VR.tmI (show VR μ v c from hx) hn]⟩
      · cases h
theorem bounds_sym {lo hi : Option AV} {clo chi : Option Value} {μ : Mu} (hlo : VO μ lo clo) (hhi : VO μ hi chi) {dl dh l h : Tm} (h1 : tmO dl lo = some l) (h2 : tmO dh hi = some h) (hd : dl.den.asI = 0) {len cap : Nat} (hn : dh.den.asI = (len : Int))
    (b : 0 ≤ l.den.asI ∧ l.den.asI ≤ h.den.asI ∧ h.den.asI ≤ (len : Int)) (hc : len ≤ cap) :
    ∃ lo' hi' : Option AV, VO μ lo' clo ∧ VO μ hi' chi ∧ boundA hi' len len = some h.den.asI.toNat ∧ boundA lo' h.den.asI.toNat 0 = some l.den.asI.toNat ∧ boundA hi' cap len = some h.den.asI.toNat := by
  have hH : ∃ hi' : Option AV, VO μ hi' chi ∧ boundA hi' len len = some h.den.asI.toNat ∧ boundA hi' cap len = some h.den.asI.toNat := by
    rcases bound_sym h2 hhi with ⟨rfl, rfl, rfl⟩ | ⟨k, rfl⟩
    · refine ⟨none, trivial, ?_, ?_⟩ <;> (simp only [boundA]; congr 1; omega)
    · refine ⟨some (.int k h.den.asI), rfl, ?_, ?_⟩ <;> (simp only [boundA]; rw [if_pos ⟨by omega, by omega⟩])
  have hL : ∃ lo' : Option AV, VO μ lo' clo ∧ boundA lo' h.den.asI.toNat 0 = some l.den.asI.toNat := by
    rcases bound_sym h1 hlo with ⟨rfl, rfl, rfl⟩ | ⟨k, rfl⟩
    · refine ⟨none, trivial, ?_⟩; simp only [boundA]; congr 1; omega
    · refine ⟨some (.int k l.den.asI), rfl, ?_⟩; simp only [boundA]; rw [if_pos ⟨by omega, by omega⟩]
  obtain ⟨hi', a1, a2, a3⟩ := hH
  obtain ⟨lo', c1, c2⟩ := hL
  exact ⟨lo', hi', c1, a1, a2, c2, a3⟩
theorem sliceM_run {t : TypeId} {x v : AV} {lo hi : Option AV} {o : Tm} (h : sliceM P t x lo hi = some (o, v)) (ho : o.den.asB = true) {μ : Mu} {w : World} {c : Value} {clo chi : Option Value} (hx : VR μ x c) (hlo : VO μ lo clo) (hhi : VO μ hi chi) :
    ∃ y, (Instr.sliceAt t c clo chi none).run P w = .ok y w ∧ VR μ v y := by
  unfold sliceM at h
  split at h
  · rename_i id k off len
    split at h
    · rename_i e l h' ht hl hh
      split at h
      · rename_i hk
        cases h
        obtain ⟨b1, b2, b3⟩ := withinT_den ho
        obtain ⟨L, h1, h2, h3, h4, h5, ⟨h6, h6'⟩, h7⟩ := hx
        have hp : (plusT off l).den.asI = off.den.asI + l.den.asI := plusT_den off l
        have hm : (minusT h' l).den.asI = h'.den.asI - l.den.asI := minusT_den h' l
        have t1 : (off.den.asI + l.den.asI).toNat = off.den.asI.toNat + l.den.asI.toNat := by omega
        have t2 : (h'.den.asI - l.den.asI).toNat = h'.den.asI.toNat - l.den.asI.toNat := by omega
        have g1 : (off.den.asI.toNat + l.den.asI.toNat + (h'.den.asI.toNat - l.den.asI.toNat)) * k ≤ L.ext := Nat.le_trans (Nat.mul_le_mul_right k (by omega)) h6
        obtain ⟨lo', hi', c1, c2, c3, c4, _⟩ := bounds_sym hlo hhi hl hh rfl (len := len.den.asI.toNat) (cap := len.den.asI.toNat) (by omega) ⟨b1, b2, by omega⟩ (Nat.le_refl _)
        rcases h7 with rfl | ⟨h0, o', rfl⟩
        · have hb := bounds_run' (P := P) c1 c2 true (cap := L.cap - off.den.asI.toNat) c3 (by omega) c4 w
          refine ⟨.slice (if L.cap - off.den.asI.toNat = l.den.asI.toNat then some ⟨L.b, L.s + off.den.asI.toNat * k, none⟩ else some ⟨L.b, L.s + off.den.asI.toNat * k + l.den.asI.toNat * k, none⟩) (h'.den.asI.toNat - l.den.asI.toNat) (L.cap - off.den.asI.toNat - l.den.asI.toNat), ?_, L, h1, h2, h3, by rw [hp]; omega, by rw [hm]; omega, by rw [hp, hm, t1, t2]; exact ⟨g1, by omega⟩, ?_⟩
          · simp only [Instr.sliceAt, Sem.run_bind, run_underlying ht, Result.andThen_ok, Instr.slice, hb, szOf_run hk, Sem.run_pure, Option.map_some, add_addr]
          · rw [hp, hm, t1, t2]
            by_cases hcl : L.cap - off.den.asI.toNat = l.den.asI.toNat
            · right
              refine ⟨by omega, L.s + off.den.asI.toNat * k, ?_⟩
              rw [if_pos hcl]; congr 1 <;> omega
            · left
              rw [if_neg hcl, Nat.add_mul, Nat.add_assoc]
              congr 1; omega
        · have e0 : len.den.asI.toNat = 0 := by omega
          rw [e0] at c3
          have hb := bounds_run' (P := P) c1 c2 true (cap := 0) c3 (Nat.le_refl _) c4 w
          have eh : h'.den.asI.toNat = 0 := by omega
          have el : l.den.asI.toNat = 0 := by omega
          rw [eh, el] at hb
          refine ⟨.slice (some ⟨L.b, o', none⟩) 0 0, ?_, L, h1, h2, h3, by rw [hp]; omega, by rw [hm]; omega, by rw [hp, hm, t1, t2]; exact ⟨g1, by omega⟩, .inr ⟨by rw [hm]; omega, o', rfl⟩⟩
          simp only [Instr.sliceAt, Sem.run_bind, run_underlying ht, Result.andThen_ok, Instr.slice, hb, szOf_run hk, Sem.run_pure]; rfl
      · cases h
    · cases h
  · rename_i x' _
    cases hs : (isSym x || symO lo || symO hi) with
    | false => simp [hs] at h
    | true =>
      simp only [hs, cond_true] at h
      split at h
      · rename_i s hs'
        split at h
        · rename_i l h' ht hl hh
          cases h
          obtain ⟨b1, b2, b3⟩ := withinT_den ho
          cases hx.tmS hs'
          rw [lenT_int] at b3
          obtain ⟨lo', hi', c1, c2, c3, c4, _⟩ := bounds_sym hlo hhi hl hh rfl (len := s.den.asS.length) (cap := s.den.asS.length) (lenT_int s) ⟨b1, b2, b3⟩ (Nat.le_refl _)
          have hb := bounds_run' (P := P) c1 c2 false c3 (Nat.le_refl _) c4 w
          refine ⟨.string ⟨(cutS s.den.asS l.den.asI h'.den.asI).toArray⟩, ?_, rfl⟩
          simp only [Instr.sliceAt, Sem.run_bind, run_underlying ht, Result.andThen_ok, Instr.slice]
          have e2 : (⟨s.den.asS.toArray⟩ : ByteArray).size = s.den.asS.length := rfl
          simp only [Option.isSome_none, Bool.false_eq_true, if_false, e2, Sem.run_bind, Sem.run_pure, Result.andThen_ok, hb, extract_bytes]
          rfl
        · cases h
      · cases h
end
end Go.Proofs.Ytamibbjpapkfeaa.Ab
