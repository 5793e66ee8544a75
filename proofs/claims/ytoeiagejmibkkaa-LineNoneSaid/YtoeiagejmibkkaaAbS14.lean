import Derived.Test.YtoeiagejmibkkaaAbS13
namespace Go.Proofs.Ytoeiagejmibkkaa.Ab
set_option linter.unusedSimpArgs false
set_option linter.unusedVariables false
open Go
set_option linter.unusedSectionVars false
variable [Rho]
section
variable {P : Program}

theorem VRs.back_mem {μ μ' : Mu} (e : Ext μ μ') : ∀ {v : List AV} {c : List Value}, (∀ x ∈ v, ∃ c0, VR μ x c0) → VRs μ' v c → VRs μ v c
  | [], _, _, h => h
  | v :: l, _, h0, h => by
    obtain ⟨x, r, h1, h2, h3⟩ := h
    obtain ⟨x0, p⟩ := h0 v (by simp)
    exact ⟨x, r, VR.back e v x x0 p h1, VRs.back_mem e (fun y hy => h0 y (by simp [hy])) h2, h3⟩
theorem RepO.back {μ μ' : Mu} (e : Ext μ μ') {id : Nat} {w w' : World} {o : AObj} (h0 : RepO μ id w o) (h : RepO μ' id w' o) : RepO μ id w' o := by
  cases o with
  | row vs own lf =>
    obtain ⟨l0, c0, t0, lo0, hi0, p1, p2, p3, p4, p5, p6, p7⟩ := h0
    obtain ⟨l, c, t, lo, hi, h1, h2, h3, h4, h5, h6, h7⟩ := h
    rw [e _ _ p1] at h1; cases h1
    refine ⟨l0, c, t, lo, hi, p1, h2, h3, h4, h5, h6, fun i x hx => ?_⟩
    obtain ⟨h8, y, h9, h10⟩ := h7 i x hx
    obtain ⟨_, y0, _, q10⟩ := p7 i x hx
    exact ⟨h8, y, h9, VR.back e x y y0 q10 h10⟩
  | bytes t own =>
    obtain ⟨l0, c0, t0, lo0, hi0, p1, p2⟩ := h0
    obtain ⟨l, c, e', lo, hi, h1, h2⟩ := h
    rw [e _ _ p1] at h1; cases h1
    exact ⟨l0, c, e', lo, hi, p1, h2⟩
  | seq sh t own =>
    obtain ⟨l0, c0, t0, lo0, hi0, p1, p2⟩ := h0
    obtain ⟨l, c, e', lo, hi, h1, h2⟩ := h
    rw [e _ _ p1] at h1; cases h1
    exact ⟨l0, c, e', lo, hi, p1, h2⟩
  | map es =>
    obtain ⟨l0, ents0, clock0, es0, p1, p2, p3, p4, p5⟩ := h0
    obtain ⟨l, ents, clock, es', h1, h2, h3, h4, h5⟩ := h
    rw [e _ _ p1] at h1; cases h1
    refine ⟨l0, ents, clock, es', p1, h2, ?_, ?_⟩
    · exact h3
    · have hmem : ∀ p ∈ es', p ∈ es0 := fun p hp => (p3.trans h3.symm).mem_iff.2 hp
      have k1 : ∀ x ∈ es'.map (·.1), ∃ c0, VR μ x c0 := fun x hx => by
        obtain ⟨p, hp, rfl⟩ := List.mem_map.1 hx
        obtain ⟨i, hi⟩ := List.mem_iff_getElem?.1 (hmem p hp)
        obtain ⟨c, _, hc⟩ := p4.get i p.1 (by simp [hi])
        exact ⟨c, hc⟩
      have k2 : ∀ x ∈ es'.map (·.2), ∃ c0, VR μ x c0 := fun x hx => by
        obtain ⟨p, hp, rfl⟩ := List.mem_map.1 hx
        obtain ⟨i, hi⟩ := List.mem_iff_getElem?.1 (hmem p hp)
        obtain ⟨c, _, hc⟩ := p5.get i p.2 (by simp [hi])
        exact ⟨c, hc⟩
      exact ⟨VRs.back_mem e k1 h4, VRs.back_mem e k2 h5⟩
theorem lk_nil (t : Nat) : lk [] t = none := rfl
theorem lk_nar (fr : FR) : ∀ (l : List Tmp) (t : Nat) (v : AV), lk (nar fr l) t = some v → t ∈ l ∧ lk fr t = some v
  | [], t, v, h => by simp [nar, lk_nil] at h
  | s :: l, t, v, h => by
    simp only [nar] at h
    split at h
    · rename_i u hu
      rw [lk_cons] at h
      split at h
      · rename_i e; cases h; subst e; exact ⟨by simp, hu⟩
      · obtain ⟨h1, h2⟩ := lk_nar fr l t v h; exact ⟨by simp [h1], h2⟩
    · obtain ⟨h1, h2⟩ := lk_nar fr l t v h; exact ⟨by simp [h1], h2⟩

/-! ### a part of a heap, and what became of it -/
theorem look_filter (f : Nat → Bool) : ∀ (l : List (Nat × AObj)) (id : Nat), look (l.filter fun p => f p.1) id = if f id then look l id else none
  | [], id => by simp [look_nil]
  | p :: l, id => by
    rw [List.filter_cons]
    by_cases h : f p.1 = true
    · simp only [h, if_true, look_cons, look_filter f l id]
      cases hb : Nat.beq p.1 id with
      | true => have := Nat.eq_of_beq_eq_true hb; subst this; simp [h]
      | false => simp
    · rw [if_neg h, look_filter f l id]
      simp only [look_cons]
      cases hb : Nat.beq p.1 id with
      | true => have := Nat.eq_of_beq_eq_true hb; subst this; simp [h]
      | false => simp
theorem get_restrict (H : Heap) (ids : List Nat) (id : Nat) : (restrict H ids).get id = if ids.contains id then H.get id else none := by
  cases ids with
  | nil => simp [restrict, Heap.get, look_nil]
  | cons a l => exact look_filter (fun x => (a :: l).contains x) H.objs id
theorem restrict_next (H : Heap) (ids : List Nat) : (restrict H ids).next = H.next := by cases ids <;> rfl
theorem restrict_log (H : Heap) (ids : List Nat) : (restrict H ids).log = [] := by cases ids <;> rfl
theorem look_append : ∀ (a b : List (Nat × AObj)) (id : Nat), look (a ++ b) id = match look a id with | some o => some o | none => look b id
  | [], b, id => by simp [look_nil]
  | p :: a, b, id => by
    simp only [List.cons_append, look_cons]
    cases Nat.beq p.1 id with
    | true => simp
    | false => simpa using look_append a b id
theorem look_fresh (n m : Nat) : ∀ (l : List (Nat × AObj)) (id : Nat), look (fresh n m l) id = if n ≤ id ∧ id < m then look l id else none
  | [], id => by simp [fresh, look_nil]
  | p :: l, id => by
    simp only [fresh]
    have hpb : (Nat.ble n p.1 && Nat.blt p.1 m) = decide (n ≤ p.1 ∧ p.1 < m) := by
      rw [Bool.eq_iff_iff]; simp [Nat.blt_eq]
    split
    · rename_i h
      rw [hpb] at h
      simp only [look_cons, look_fresh n m l id]
      cases hb : Nat.beq p.1 id with
      | true => have := Nat.eq_of_beq_eq_true hb; subst this; simp at h; simp [h]
      | false => simp
    · rename_i h
      rw [hpb] at h
      simp only [look_cons, look_fresh n m l id]
      cases hb : Nat.beq p.1 id with
      | true =>
        have := Nat.eq_of_beq_eq_true hb; subst this
        simp at h
        rw [if_neg (by omega), if_neg (by omega)]
      | false => simp
theorem beq_ne {a b : Nat} (h : a ≠ b) : Nat.beq a b = false := by
  cases hb : Nat.beq a b with
  | false => rfl
  | true => exact absurd (Nat.eq_of_beq_eq_true hb) h
theorem look_mergeObjs (ids : List Nat) (R : Heap) : ∀ (l : List (Nat × AObj)) (id : Nat), look (mergeObjs ids R l) id = match ids.contains id, look l id with
    | true, some _ => R.get id
    | true, none => none
    | false, o => o
  | [], id => by simp only [mergeObjs, look_nil]; split <;> first | rfl | simp_all
  | p :: l, id => by
    simp only [mergeObjs]
    by_cases hpe : p.1 = id
    · subst hpe
      have hb : Nat.beq p.1 p.1 = true := Nat.beq_refl _
      split
      · rename_i hc
        split
        · rename_i o ho
          simp only [look_cons, hb, cond_true, hc, ho]
        · rename_i ho
          simp only [look_cons, hb, cond_true, hc]
          rw [look_mergeObjs ids R l p.1, hc, ho]
          split <;> simp_all
      · rename_i hc
        simp only [look_cons, hb, cond_true, hc]
    · have hb := beq_ne hpe
      split
      · split
        · simp only [look_cons, hb, cond_false, look_mergeObjs ids R l id]
        · simp only [look_cons, hb, cond_false, look_mergeObjs ids R l id]
      · simp only [look_cons, hb, cond_false, look_mergeObjs ids R l id]
/-- What an operation touched. -/
def tchd (n : Nat) (F : List Nat) (R : Heap) (id : Nat) : Prop := (id ∈ R.log ∧ id ∈ F ∧ id < n) ∨ (n ≤ id ∧ id < R.next)
theorem Bd.restrict {H : Heap} (b : Bd H) (F : List Nat) : Bd (restrict H F) := fun id o h => by
  rw [get_restrict] at h
  rw [restrict_next]
  split at h
  · exact b id o h
  · cases h
theorem get_merge {H R : Heap} {F : List Nat} (lg : LG (restrict H F) R) (bd : Bd H) (id : Nat) :
    (tchd H.next F R id → ∀ o, (merge H F R).get id = some o → R.get id = some o) ∧ (¬ tchd H.next F R id → (merge H F R).get id = H.get id) ∧ Bd (merge H F R) := by
  obtain ⟨_, l, l1, l2, l3⟩ := lg (bd.restrict F)
  rw [restrict_log, List.append_nil] at l1
  subst l1
  rw [restrict_next] at l2 l3
  have hm : ∀ id, (merge H F R).get id = match (if H.next ≤ id ∧ id < R.next then R.get id else none) with
      | some o => some o
      | none => match F.contains id, H.get id with
        | true, some _ => R.get id
        | true, none => none
        | false, o => o := fun id => by
    have e1 : look (fresh H.next R.next R.objs) id = if H.next ≤ id ∧ id < R.next then R.get id else none := look_fresh _ _ _ _
    cases F with
    | nil =>
      show look (fresh H.next R.next R.objs ++ H.objs) id = _
      rw [look_append, e1]
      rfl
    | cons a F =>
      show look (fresh H.next R.next R.objs ++ mergeObjs (a :: F) R H.objs) id = _
      rw [look_append, e1, look_mergeObjs]
      rfl
  have hnone : ∀ id, H.next ≤ id → H.get id = none := fun id h => by
    cases hg : H.get id with
    | none => rfl
    | some o => have := bd id o hg; omega
  refine ⟨?_, ?_, ?_⟩
  · rintro (⟨h1, h2, h3⟩ | ⟨h1, h2⟩) o ho
    · rw [hm, if_neg (by omega)] at ho
      have hf : F.contains id = true := by simpa using h2
      simp only [hf] at ho
      split at ho <;> simp_all
    · rw [hm, if_pos ⟨h1, h2⟩, hnone id h1] at ho
      cases hg : R.get id with
      | some o' => simp [hg] at ho; exact congrArg some ho
      | none => simp [hg] at ho; split at ho <;> simp_all
  · intro hn
    by_cases h1 : H.next ≤ id
    · have : ¬ id < R.next := fun h => hn (.inr ⟨h1, h⟩)
      rw [hm, if_neg (by omega), hnone id h1]
      cases F.contains id <;> rfl
    · rw [hm, if_neg (by omega)]
      cases hf : F.contains id with
      | true =>
        have hnl : id ∉ R.log := fun h => hn (.inl ⟨h, by simpa using hf, by omega⟩)
        have := l2 id (by omega) hnl
        rw [get_restrict, if_pos hf] at this
        cases hh : H.get id with
        | none => rfl
        | some _ => simp only []; rw [this, hh]
      | false => cases hh : H.get id <;> rfl
  · intro id o ho
    rw [hm] at ho
    show id < R.next
    by_cases h1 : H.next ≤ id
    · by_cases h2 : id < R.next
      · exact h2
      · rw [if_neg (by omega), hnone id h1] at ho
        cases hf : F.contains id <;> rw [hf] at ho <;> cases ho
    · omega
end
end Go.Proofs.Ytoeiagejmibkkaa.Ab
