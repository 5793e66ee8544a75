import Derived.Test.YtamibbjpapkfeaaAbS4
namespace Go.Proofs.Ytamibbjpapkfeaa.Ab
set_option linter.unusedSimpArgs false
set_option linter.unusedVariables false
open Go
set_option linter.unusedSectionVars false
variable [Rho]
section
variable {P : Program}

theorem fieldAddrA_run {s : TypeId} {a v : AV} {f : Nat} (h : fieldAddrA P s a f = some v) {μ : Mu} {ca : Value} (ha : VR μ a ca) (w : World) : ∃ c, (Instr.fieldAt s ca f).run P w = .ok c w ∧ VR μ v c := by
  unfold fieldAddrA at h
  split at h
  · rename_i fs id off ht
    split at h
    · rename_i fd hf
      split at h
      · rename_i n hn
        cases h
        obtain ⟨l, hl, rfl⟩ := ha
        refine ⟨_, ?_, l, hl, rfl⟩
        simp only [Instr.fieldAt, Sem.run_bind, run_underlying ht, Result.andThen_ok, hf, Instr.sureAddr, Sem.run_pure, fieldPlace, szOf_run hn, Nat.succ_ne_zero, if_false, add_addr]
        simp only [Nat.add_assoc]
      · cases h
    · cases h
  · rename_i fs id k i j ht
    split at h
    · rename_i fd hf
      split at h
      · rename_i n hn
        cases h
        obtain ⟨l, hl, h2, h3, h4, rfl⟩ := ha
        refine ⟨_, ?_, l, hl, h2, h3, h4, rfl⟩
        simp only [Instr.fieldAt, Sem.run_bind, run_underlying ht, Result.andThen_ok, hf, Instr.sureAddr, Sem.run_pure, fieldPlace, szOf_run hn, Nat.succ_ne_zero, if_false, add_addr]
        simp only [Nat.add_assoc]
      · cases h
    · cases h
  · cases h
theorem fieldA_run {t : TypeId} {x v : AV} {f : Nat} (h : fieldA P t x f = some v) {μ : Mu} {c : Value} (hx : VR μ x c) (w : World) : ∃ y, (Instr.field t c f).run P w = .ok y w ∧ VR μ v y := by
  unfold fieldA at h
  split at h
  · rename_i fs cs ht
    split at h
    · rename_i fd hf
      obtain ⟨l, hl, rfl⟩ := hx
      obtain ⟨y, h1, h2⟩ := partA_run h hl w
      refine ⟨y, ?_, h2⟩
      simp only [Instr.field, Sem.run_bind, run_underlying ht, Result.andThen_ok, hf, asAgg, Sem.run_pure, h1]
    · cases h
  · cases h
theorem indexAddrA_run {t : TypeId} {x i v : AV} (h : indexAddrA P t x i = some v) {μ : Mu} {c j : Value} (hx : VR μ x c) (hi : VR μ i j) (w : World) : ∃ y, (Instr.indexAt t c j).run P w = .ok y w ∧ VR μ v y := by
  unfold indexAddrA at h
  split at h
  · rename_i k n
    cases hi
    split at h
    · rename_i len e id off ht
      split at h
      · rename_i m hm
        split at h
        · rename_i hb
          cases h
          obtain ⟨l, hl, rfl⟩ := hx
          refine ⟨_, ?_, l, hl, rfl⟩
          simp only [Instr.indexAt, asIntOf, Sem.run_bind, Sem.run_pure, run_underlying ht, Result.andThen_ok, Instr.sureAddr, if_pos hb, szOf_run hm, Sem.run_ite, add_addr]
          simp only [Nat.add_assoc]
        · cases h
      · cases h
    · rename_i e id off len cap ht
      split at h
      · rename_i m hm
        split at h
        · rename_i hb
          cases h
          obtain ⟨l, hl, hc⟩ := hx
          have : ∃ q, c = .slice (some ⟨l.b, l.s + off, none⟩) len q := by
            cases cap with
            | known q => exact ⟨_, hc⟩
            | unk k =>
              rcases hc with ⟨_, _, _, _, hc | ⟨h0, _⟩⟩
              · exact ⟨_, hc⟩
              · omega
          obtain ⟨q, rfl⟩ := this
          refine ⟨_, ?_, l, hl, rfl⟩
          simp only [Instr.indexAt, asIntOf, Sem.run_bind, Sem.run_pure, run_underlying ht, Result.andThen_ok, if_pos hb, szOf_run hm, Sem.run_ite, add_addr]
          simp only [Nat.add_assoc]
        · cases h
      · cases h
    · cases h
  · cases h
theorem indexA_run {t : TypeId} {x i v : AV} (h : indexA P t x i = some v) {μ : Mu} {c j : Value} (hx : VR μ x c) (hi : VR μ i j) (w : World) : ∃ y, (Instr.index t c j).run P w = .ok y w ∧ VR μ v y := by
  unfold indexA at h
  split at h
  · rename_i k n
    cases hi
    split at h
    · rename_i len e cs ht
      split at h
      · rename_i m hm
        split at h
        · rename_i hb
          obtain ⟨l, hl, rfl⟩ := hx
          obtain ⟨y, h1, h2⟩ := partA_run h hl w
          refine ⟨y, ?_, h2⟩
          simp only [Instr.index, asIntOf, Sem.run_bind, Sem.run_pure, run_underlying ht, Result.andThen_ok, if_pos hb, szOf_run hm, Sem.run_ite, h1]
        · cases h
      · cases h
    · rename_i s ht
      split at h
      · rename_i h0
        split at h
        · rename_i b hb
          cases h; cases hx
          refine ⟨_, ?_, rfl⟩
          have hg : (⟨s.toArray⟩ : ByteArray)[n.toNat]? = some b := by
            have hlt : n.toNat < s.length := (List.getElem?_eq_some_iff.1 hb).1
            have : (⟨s.toArray⟩ : ByteArray)[n.toNat]? = some ((⟨s.toArray⟩ : ByteArray)[n.toNat]'hlt) := getElem?_pos _ _ _
            rw [this]
            congr 1
            have := (List.getElem?_eq_some_iff.1 hb).2
            exact this
          simp only [Instr.index, asIntOf, Sem.run_bind, Sem.run_pure, run_underlying ht, Result.andThen_ok, if_pos h0, hg]
        · cases h
      · cases h
    · cases h
  · cases h

/-! ### slices -/
/-- An optional operand. -/
def VO (μ : Mu) : Option AV → Option Value → Prop
  | none, none => True
  | some v, some c => VR μ v c
  | _, _ => False
theorem bound_run {x : AV} {y n : Nat} (h : boundA (some x) y 0 = some n) {μ : Mu} {c : Value} (hx : VR μ x c) (code : BoundsCode) (w : World) : (Instr.sliceBound c y code).run P w = .ok n w ∧ n ≤ y := by
  unfold boundA at h
  split at h
  · rename_i heq; cases heq
  · rename_i k i heq
    cases heq
    split at h
    · rename_i hb
      cases h; cases hx
      refine ⟨by simp only [Instr.sliceBound, asIntOf, Sem.run_bind, Sem.run_pure, Result.andThen_ok, Sem.run_ite, if_pos hb], by omega⟩
    · cases h
  · cases h
/-- The three bounds of a slice expression: low, high, and the greatest one. -/
theorem bounds_run {lo hi : Option AV} {clo chi : Option Value} {μ : Mu} (hlo : VO μ lo clo) (hhi : VO μ hi chi) (isS : Bool) {len cap y h l : Nat} (hh : boundA hi y len = some h) (hy : y ≤ cap) (hl : boundA lo h 0 = some l) (w : World) :
    (Instr.sliceBounds isS len cap clo chi none).run P w = .ok (l, h, cap) w ∧ l ≤ h ∨ (hi = none ∧ h = len ∧ (Instr.sliceBounds isS len cap clo chi none).run P w = .ok (l, h, cap) w) := by
  have key : ∀ (hr : (match chi with | some v => Instr.sliceBound v cap (if isS then .sliceAcap else .sliceAlen) | none => pure len : Sem Nat).run P w = .ok h w),
      (Instr.sliceBounds isS len cap clo chi none).run P w = .ok (l, h, cap) w := fun hr => by
    have hlr : (match clo with | some v => Instr.sliceBound v h .sliceB | none => pure 0 : Sem Nat).run P w = .ok l w := by
      cases lo with
      | none =>
        cases clo with
        | none => simp [boundA] at hl; subst hl; rfl
        | some _ => exact hlo.elim
      | some v =>
        cases clo with
        | none => exact hlo.elim
        | some c => exact (bound_run hl hlo _ w).1
    unfold Instr.sliceBounds
    cases chi with
    | none =>
      simp only [Sem.run_bind, Sem.run_pure, Result.andThen_ok]
      simp at hr; subst hr
      cases clo with
      | none => simp at hlr ⊢; exact hlr
      | some c => simp at hlr ⊢; rw [hlr]; rfl
    | some v =>
      simp only [Sem.run_bind, Sem.run_pure, Result.andThen_ok]
      simp only at hr
      rw [hr]
      simp only [Result.andThen_ok]
      cases clo with
      | none => simp at hlr ⊢; exact hlr
      | some c => simp at hlr ⊢; rw [hlr]; rfl
  have hle : l ≤ h := by
    cases lo with
    | none => simp [boundA] at hl; omega
    | some v =>
      cases clo with
      | none => exact hlo.elim
      | some c => exact (bound_run (P := P) hl hlo .sliceB w).2
  refine .inl ⟨key ?_, hle⟩
  cases hi with
  | none =>
    cases chi with
    | none => simp [boundA] at hh; subst hh; rfl
    | some _ => exact hhi.elim
  | some v =>
    cases chi with
    | none => exact hhi.elim
    | some c =>
      unfold boundA at hh
      split at hh
      · rename_i heq; cases heq
      · rename_i k i heq
        cases heq
        split at hh
        · rename_i hb
          cases hh; cases hhi
          have hb' : 0 ≤ i ∧ i ≤ (cap : Int) := ⟨hb.1, by omega⟩
          simp only [Instr.sliceBound, asIntOf, Sem.run_bind, Sem.run_pure, Result.andThen_ok, Sem.run_ite, if_pos hb']
        · cases hh
      · cases hh
theorem bounds_run' {lo hi : Option AV} {clo chi : Option Value} {μ : Mu} (hlo : VO μ lo clo) (hhi : VO μ hi chi) (isS : Bool) {len cap y h l : Nat} (hh : boundA hi y len = some h) (hy : y ≤ cap) (hl : boundA lo h 0 = some l) (w : World) :
    (Instr.sliceBounds isS len cap clo chi none).run P w = .ok (l, h, cap) w := by
  rcases bounds_run (P := P) hlo hhi isS hh hy hl w with h1 | h1
  · exact h1.1
  · exact h1.2.2
theorem low_le {lo : Option AV} {clo : Option Value} {μ : Mu} (hlo : VO μ lo clo) {h l : Nat} (hl : boundA lo h 0 = some l) : l ≤ h := by
  cases lo with
  | none => simp [boundA] at hl; omega
  | some v =>
    unfold boundA at hl
    split at hl
    · rename_i heq; cases heq
    · split at hl
      · cases hl; omega
      · cases hl
    · cases hl
theorem high_le {hi : Option AV} {y len h : Nat} (hh : boundA hi y len = some h) : h ≤ y ∨ (hi = none ∧ h = len) := by
  unfold boundA at hh
  split at hh
  · cases hh; exact .inr ⟨rfl, rfl⟩
  · split at hh
    · cases hh; exact .inl (by omega)
    · cases hh
  · cases hh
theorem extract_bytes (s : List UInt8) (l h : Nat) : (⟨s.toArray⟩ : ByteArray).extract l h = ⟨((s.drop l).take (h - l)).toArray⟩ := by
  apply ByteArray.ext; simp
theorem sliceA_run {t : TypeId} {x v : AV} {lo hi : Option AV} {H : Heap} (h : sliceA P t x lo hi H = some v) {μ : Mu} {w : World} (r : Rep μ H.get w) {c : Value} {clo chi : Option Value} (hx : VR μ x c) (hlo : VO μ lo clo) (hhi : VO μ hi chi) :
    ∃ y, (Instr.sliceAt t c clo chi none).run P w = .ok y w ∧ VR μ v y := by
  unfold sliceA at h
  split at h
  · rename_i s ht
    split at h
    · rename_i h' hh
      split at h
      · rename_i l hl
        cases h; cases hx
        refine ⟨_, ?_, rfl⟩
        have hb := bounds_run' (P := P) hlo hhi false hh (Nat.le_refl _) hl w
        simp only [Instr.sliceAt, Sem.run_bind, run_underlying ht, Result.andThen_ok, Instr.slice]
        have e2 : (⟨s.toArray⟩ : ByteArray).size = s.length := rfl
        simp only [Option.isSome_none, Bool.false_eq_true, if_false, e2, Sem.run_bind, Sem.run_pure, Result.andThen_ok, hb, extract_bytes]
      · cases h
    · cases h
  · rename_i e ht
    split at h
    · rename_i z h' hz hh
      split at h
      · rename_i l hl
        cases h; cases hx
        have h0 : h' = 0 := by
          rcases high_le hh with h1 | ⟨_, h1⟩ <;> omega
        subst h0
        have l0 : l = 0 := by have := low_le hlo hl; omega
        subst l0
        have hb := bounds_run' (P := P) hlo hhi true hh (Nat.le_refl _) hl w
        exact ⟨_, by simp only [Instr.sliceAt, Sem.run_bind, run_underlying ht, Result.andThen_ok, Instr.slice, hb, szOf_run hz, Sem.run_pure]; rfl, rfl⟩
      · cases h
    · cases h
  · rename_i e id off len cp ht
    split at h
    · rename_i k hk
      split at h
      · rename_i h' hh
        split at h
        · rename_i l hl
          cases h
          obtain ⟨L, hL, rfl⟩ := hx
          have hb : (Instr.sliceBounds true len cp clo chi none).run P w = .ok (l, h', cp) w := bounds_run' (P := P) hlo hhi true hh (Nat.le_refl _) hl w
          refine ⟨_, ?_, L, hL, rfl⟩
          simp only [Instr.sliceAt, Sem.run_bind, run_underlying ht, Result.andThen_ok, Instr.slice, hb, szOf_run hk, Sem.run_pure]
          by_cases hcl : cp = l
          · simp only [if_pos hcl]
          · simp only [if_neg hcl, Option.map_some, add_addr, Nat.add_assoc]
        · cases h
      · cases h
    · cases h
  · rename_i e id off len k ht
    split at h
    · rename_i vs own lf hg
      split at h
      · rename_i hk
        obtain ⟨hk, hk0⟩ := hk
        split at h
        · rename_i h' hh
          split at h
          · rename_i l hl
            cases h
            obtain ⟨L, hL, q1, q2, q3, q4, q5⟩ := hx
            obtain ⟨L', c0, e0, lo0, hi0, h1, h2, h3, h4, h5, h6, h7⟩ := rep_row r hg
            rw [hL] at h1; cases h1
            rw [q2] at h4 h5
            have hlow := low_le hlo hl
            obtain ⟨o, rfl⟩ : ∃ o, off = o * k := ⟨off / k, by rw [Nat.div_mul_cancel (Nat.dvd_of_mod_eq_zero q3)]⟩
            have hdo : o * k / k = o := Nat.mul_div_cancel _ q1
            rw [hdo] at q5
            have hy : (vs.length - o * k) / k ≤ L.cap - o := by
              rw [h3]
              calc (L.ext - o * k) / k ≤ (L.cap * k - o * k) / k := Nat.div_le_div_right (by omega)
                _ = L.cap - o := by rw [← Nat.sub_mul, Nat.mul_div_cancel _ q1]
            have hh' : h' ≤ (vs.length - o * k) / k := by
              rcases high_le hh with h8 | ⟨_, h8⟩
              · exact h8
              · rw [h8, Nat.le_div_iff_mul_le q1]; omega
            have hh2 : h' * k ≤ vs.length - o * k := by
              have := Nat.mul_le_mul_right k hh'
              exact Nat.le_trans this (Nat.div_mul_le_self _ _)
            have hlk : l * k ≤ h' * k := Nat.mul_le_mul_right k hlow
            have hsub : (h' - l) * k = h' * k - l * k := Nat.sub_mul _ _ _
            have g1 : (o * k + l * k) % k = 0 := by rw [← Nat.add_mul]; exact Nat.mul_mod_left _ _
            have g2 : (o * k + l * k) / k = o + l := by rw [← Nat.add_mul, Nat.mul_div_cancel _ q1]
            have g3 : o * k + l * k + (h' - l) * k ≤ L.ext := by
              rcases Nat.eq_zero_or_pos h' with h0 | h0
              · subst h0
                have l0 : l = 0 := by omega
                subst l0
                simp; omega
              · have : k ≤ h' * k := Nat.le_mul_of_pos_left k h0
                omega
            rcases q5 with rfl | ⟨q5, q6, o', rfl⟩
            · have hb : (Instr.sliceBounds true len (L.cap - o) clo chi none).run P w = .ok (l, h', L.cap - o) w := bounds_run' (P := P) hlo hhi true hh hy hl w
              have hrun : (Instr.sliceAt t (.slice (some ⟨L.b, L.s + o * k, none⟩) len (L.cap - o)) clo chi none).run P w =
                  .ok (.slice (if L.cap - o = l then some ⟨L.b, L.s + o * k, none⟩ else some ⟨L.b, L.s + o * k + l * k, none⟩) (h' - l) (L.cap - o - l)) w := by
                simp only [Instr.sliceAt, Sem.run_bind, run_underlying ht, Result.andThen_ok, Instr.slice, hb, szOf_run hk, Sem.run_pure, Option.map_some, add_addr]
              refine ⟨_, hrun, L, hL, q1, q2, g1, g3, ?_⟩
              by_cases hcl : L.cap - o = l
              · right
                have hhl : h' - l = 0 := by omega
                refine ⟨hhl, ?_, L.s + o * k, ?_⟩
                · have : L.ext ≤ L.cap * k := h4
                  have h9 : L.cap * k ≤ o * k + l * k := by
                    rw [← Nat.add_mul]; exact Nat.mul_le_mul_right k (by omega)
                  omega
                · rw [if_pos hcl, hhl]; congr 1; omega
              · left
                rw [if_neg hcl, g2]
                simp only [Nat.add_assoc]
                congr 1; omega
            · subst q5
              have h0 : h' = 0 := by
                have : vs.length - o * k = 0 := by omega
                rw [this] at hh'; simpa using hh'
              subst h0
              have l0 : l = 0 := by omega
              subst l0
              have hh0 : boundA hi 0 0 = some 0 := by
                have : (vs.length - o * k) / k = 0 := by
                  have : vs.length - o * k = 0 := by omega
                  rw [this]; simp
                rw [this] at hh; exact hh
              have hb : (Instr.sliceBounds true 0 0 clo chi none).run P w = .ok (0, 0, 0) w := bounds_run' (P := P) hlo hhi true hh0 (Nat.le_refl _) hl w
              refine ⟨_, by simp only [Instr.sliceAt, Sem.run_bind, run_underlying ht, Result.andThen_ok, Instr.slice, hb, szOf_run hk, Sem.run_pure]; rfl, L, hL, q1, q2, g1, g3, .inr ⟨rfl, by omega, o', rfl⟩⟩
          · cases h
        · cases h
      · cases h
    · cases h
  · rename_i n e id off ht
    split at h
    · rename_i k hk
      split at h
      · rename_i h' hh
        split at h
        · rename_i l hl
          cases h
          obtain ⟨L, hL, rfl⟩ := hx
          have hb : (Instr.sliceBounds false n n clo chi none).run P w = .ok (l, h', n) w := bounds_run' (P := P) hlo hhi false hh (Nat.le_refl _) hl w
          refine ⟨_, ?_, L, hL, rfl⟩
          simp only [Instr.sliceAt, Sem.run_bind, run_underlying ht, Result.andThen_ok, Instr.sureAddr, hb, szOf_run hk, Sem.run_pure]
          by_cases hcl : n = l
          · simp only [if_pos hcl]
          · simp only [if_neg hcl, add_addr, Nat.add_assoc]
        · cases h
      · cases h
    · cases h
  · cases h
end
end Go.Proofs.Ytamibbjpapkfeaa.Ab
