import Derived.Test.YtamibbjpapkfeaaAbS13
namespace Go.Proofs.Ytamibbjpapkfeaa.Ab
set_option linter.unusedSimpArgs false
set_option linter.unusedVariables false
open Go
set_option linter.unusedSectionVars false
variable [Rho]
section
variable {P : Program}

theorem VRs.back_mem {μ μ' : Mu} (e : Ext μ μ') : ∀ {v : List AV} {c : List Value}, (∀ x ∈ v, ∃ c0, VR μ x c0) → VRs μ' v c → VRs μ v c
  | [], _, _, h => h
  | v :: l, _, h0, h => by
    obtain ⟨x, r, h1, h2, h3⟩ := h
    obtain ⟨x0, p⟩ := h0 v (by simp)
    exact ⟨x, r, VR.back e v x x0 p h1, VRs.back_mem e (fun y hy => h0 y (by simp [hy])) h2, h3⟩
theorem RepO.back {μ μ' : Mu} (e : Ext μ μ') {id : Nat} {w w' : World} {o : AObj} (h0 : RepO μ id w o) (h : RepO μ' id w' o) : RepO μ id w' o := by
  cases o with
  | row vs own lf =>
    obtain ⟨l0, c0, t0, lo0, hi0, p1, p2, p3, p4, p5, p6, p7⟩ := h0
    obtain ⟨l, c, t, lo, hi, h1, h2, h3, h4, h5, h6, h7⟩ := h
    rw [e _ _ p1] at h1; cases h1
    refine ⟨l0, c, t, lo, hi, p1, h2, h3, h4, h5, h6, fun i x hx => ?_⟩
    obtain ⟨h8, y, h9, h10⟩ := h7 i x hx
    obtain ⟨_, y0, _, q10⟩ := p7 i x hx
    exact ⟨h8, y, h9, VR.back e x y y0 q10 h10⟩
  | bytes t own =>
    obtain ⟨l0, c0, t0, lo0, hi0, p1, p2⟩ := h0
    obtain ⟨l, c, e', lo, hi, h1, h2⟩ := h
    rw [e _ _ p1] at h1; cases h1
    exact ⟨l0, c, e', lo, hi, p1, h2⟩
  | seq sh t own =>
    obtain ⟨l0, c0, t0, lo0, hi0, p1, p2⟩ := h0
    obtain ⟨l, c, e', lo, hi, h1, h2⟩ := h
    rw [e _ _ p1] at h1; cases h1
    exact ⟨l0, c, e', lo, hi, p1, h2⟩
  | map es =>
    obtain ⟨l0, ents0, clock0, es0, p1, p2, p3, p4, p5⟩ := h0
    obtain ⟨l, ents, clock, es', h1, h2, h3, h4, h5⟩ := h
    rw [e _ _ p1] at h1; cases h1
    refine ⟨l0, ents, clock, es', p1, h2, ?_, ?_⟩
    · exact h3
    · have hmem : ∀ p ∈ es', p ∈ es0 := fun p hp => (p3.trans h3.symm).mem_iff.2 hp
      have k1 : ∀ x ∈ es'.map (·.1), ∃ c0, VR μ x c0 := fun x hx => by
        obtain ⟨p, hp, rfl⟩ := List.mem_map.1 hx
        obtain ⟨i, hi⟩ := List.mem_iff_getElem?.1 (hmem p hp)
        obtain ⟨c, _, hc⟩ := p4.get i p.1 (by simp [hi])
        exact ⟨c, hc⟩
      have k2 : ∀ x ∈ es'.map (·.2), ∃ c0, VR μ x c0 := fun x hx => by
        obtain ⟨p, hp, rfl⟩ := List.mem_map.1 hx
        obtain ⟨i, hi⟩ := List.mem_iff_getElem?.1 (hmem p hp)
        obtain ⟨c, _, hc⟩ := p5.get i p.2 (by simp [hi])
        exact ⟨c, hc⟩
      exact ⟨VRs.back_mem e k1 h4, VRs.back_mem e k2 h5⟩
theorem lk_nil (t : Nat) : lk [] t = none := rfl
theorem lk_nar (fr : FR) : ∀ (l : List Tmp) (t : Nat) (v : AV), lk (nar fr l) t = some v → t ∈ l ∧ lk fr t = some v
  | [], t, v, h => by simp [nar, lk_nil] at h
  | s :: l, t, v, h => by
    simp only [nar] at h
    split at h
    · rename_i u hu
      rw [lk_cons] at h
      split at h
      · rename_i e; cases h; subst e; exact ⟨by simp, hu⟩
      · obtain ⟨h1, h2⟩ := lk_nar fr l t v h; exact ⟨by simp [h1], h2⟩
    · obtain ⟨h1, h2⟩ := lk_nar fr l t v h; exact ⟨by simp [h1], h2⟩

/-! ### a part of a heap, and what became of it -/
theorem look_filter (f : Nat → Bool) : ∀ (l : List (Nat × AObj)) (id : Nat), look (l.filter fun p => f p.1) id = if f id then look l id else none
  | [], id => by simp [look_nil]
  | p :: l, id => by
    rw [List.filter_cons]
    by_cases h : f p.1 = true
    · simp only [h, if_true, look_cons, look_filter f l id]
      cases hb : Nat.beq p.1 id with
      | true => have := Nat.eq_of_beq_eq_true hb; subst this; simp [h]
      | false => simp
    · rw [if_neg h, look_filter f l id]
      simp only [look_cons]
      cases hb : Nat.beq p.1 id with
      | true => have := Nat.eq_of_beq_eq_true hb; subst this; simp [h]
      | false => simp
theorem memN_iff (x : Nat) : ∀ l : List Nat, memN x l = true ↔ x ∈ l
  | [] => by simp [memN]
  | y :: l => by
    simp only [memN, List.mem_cons]
    cases hb : Nat.beq y x with
    | true => simp [Nat.eq_of_beq_eq_true hb]
    | false =>
      have : x ≠ y := fun e => by subst e; simp at hb
      simp [this, memN_iff x l]
theorem look_pickO (objs : List (Nat × AObj)) : ∀ (ids : List Nat) (id : Nat), look (pickO objs ids) id = if ids.contains id then look objs id else none
  | [], id => by simp [pickO, look_nil]
  | a :: l, id => by
    simp only [pickO]
    by_cases e : a = id
    · subst e
      split
      · rename_i o ho
        simp [look_cons, ho]
      · rename_i ho
        rw [look_pickO objs l a, ho]
        simp
    · have hb : Nat.beq a id = false := by
        cases hb : Nat.beq a id with
        | false => rfl
        | true => exact absurd (Nat.eq_of_beq_eq_true hb) e
      have hne : id ≠ a := fun h => e h.symm
      split
      · rw [look_cons, hb, cond_false, look_pickO objs l id]
        simp [hne]
      · rw [look_pickO objs l id]
        simp [hne]
theorem get_restrict (H : Heap) (ids : List Nat) (id : Nat) : (restrict H ids).get id = if ids.contains id then H.get id else none := look_pickO H.objs ids id
theorem restrict_next (H : Heap) (ids : List Nat) : (restrict H ids).next = H.next := rfl
theorem restrict_log (H : Heap) (ids : List Nat) : (restrict H ids).log = [] := rfl
theorem look_append : ∀ (a b : List (Nat × AObj)) (id : Nat), look (a ++ b) id = match look a id with | some o => some o | none => look b id
  | [], b, id => by simp [look_nil]
  | p :: a, b, id => by
    simp only [List.cons_append, look_cons]
    cases Nat.beq p.1 id with
    | true => simp
    | false => simpa using look_append a b id
theorem look_fresh (n m : Nat) : ∀ (l : List (Nat × AObj)) (id : Nat), look (fresh n m l) id = if n ≤ id ∧ id < m then look l id else none
  | [], id => by simp [fresh, look_nil]
  | p :: l, id => by
    simp only [fresh]
    have hpb : (Nat.ble n p.1 && Nat.blt p.1 m) = decide (n ≤ p.1 ∧ p.1 < m) := by
      rw [Bool.eq_iff_iff]; simp [Nat.blt_eq]
    split
    · rename_i h
      rw [hpb] at h
      simp only [look_cons, look_fresh n m l id]
      cases hb : Nat.beq p.1 id with
      | true => have := Nat.eq_of_beq_eq_true hb; subst this; simp at h; simp [h]
      | false => simp
    · rename_i h
      rw [hpb] at h
      simp only [look_cons, look_fresh n m l id]
      cases hb : Nat.beq p.1 id with
      | true =>
        have := Nat.eq_of_beq_eq_true hb; subst this
        simp at h
        rw [if_neg (by omega), if_neg (by omega)]
      | false => simp
theorem beq_ne {a b : Nat} (h : a ≠ b) : Nat.beq a b = false := by
  cases hb : Nat.beq a b with
  | false => rfl
  | true => exact absurd (Nat.eq_of_beq_eq_true hb) h
theorem look_updO (ids : List Nat) (R : Heap) (n : Nat) : ∀ (log : List Nat) (l : List (Nat × AObj)) (id : Nat),
    (¬ (id ∈ log ∧ id ∈ ids ∧ id < n) → look (updO ids R n log l) id = look l id) ∧ ((id ∈ log ∧ id ∈ ids ∧ id < n) → ∀ o, look (updO ids R n log l) id = some o → R.get id = some o)
  | [], l, id => ⟨fun _ => rfl, fun h => by simp at h⟩
  | a :: log, l, id => by
    simp only [updO]
    cases hq : (Nat.blt a n && memN a ids) with
    | false =>
      simp only [cond_false]
      obtain ⟨h1, h2⟩ := look_updO ids R n log l id
      have hna : ¬ (a ∈ ids ∧ a < n) := fun ⟨q1, q2⟩ => by
        rw [(memN_iff a ids).2 q1, (show Nat.blt a n = true by simpa [Nat.blt_eq] using q2)] at hq; cases hq
      refine ⟨fun hn => h1 fun ⟨q1, q2⟩ => hn ⟨by simp [q1], q2⟩, fun ⟨q1, q2⟩ => h2 ⟨?_, q2⟩⟩
      rcases List.mem_cons.1 q1 with rfl | q1
      · exact absurd q2 hna
      · exact q1
    | true =>
      simp only [cond_true]
      simp only [Bool.and_eq_true] at hq
      have ha : a ∈ ids ∧ a < n := ⟨(memN_iff a ids).1 hq.2, (by simpa [Nat.blt_eq] using hq.1)⟩
      split
      · rename_i o' ho'
        obtain ⟨h1, h2⟩ := look_updO ids R n log (repl l a o') id
        refine ⟨fun hn => ?_, fun hm o ho => ?_⟩
        · have hne : id ≠ a := fun e => hn (by subst e; exact ⟨by simp, ha⟩)
          rw [h1 fun ⟨q1, q2⟩ => hn ⟨by simp [q1], q2⟩, look_repl, if_neg hne]
        · by_cases hin : id ∈ log
          · exact h2 ⟨hin, hm.2⟩ o ho
          · have e : id = a := by
              rcases List.mem_cons.1 hm.1 with e | e
              · exact e
              · exact absurd e hin
            subst e
            rw [h1 fun ⟨q1, _⟩ => hin q1, look_repl, if_pos rfl] at ho
            cases hl : look l id with
            | none => rw [hl] at ho; cases ho
            | some _ => rw [hl] at ho; cases ho; exact ho'
      · rename_i ho'
        obtain ⟨h1, h2⟩ := look_updO ids R n log (drp l a) id
        refine ⟨fun hn => ?_, fun hm o ho => ?_⟩
        · have hne : id ≠ a := fun e => hn (by subst e; exact ⟨by simp, ha⟩)
          rw [h1 fun ⟨q1, q2⟩ => hn ⟨by simp [q1], q2⟩, look_drp, if_neg hne]
        · by_cases hin : id ∈ log
          · exact h2 ⟨hin, hm.2⟩ o ho
          · have e : id = a := by
              rcases List.mem_cons.1 hm.1 with e | e
              · exact e
              · exact absurd e hin
            subst e
            rw [h1 fun ⟨q1, _⟩ => hin q1, look_drp, if_pos rfl] at ho
            cases ho
theorem merge_next (H : Heap) (F : List Nat) (R : Heap) : (merge H F R).next = R.next := by
  unfold merge; split
  · cases Nat.beq R.next H.next <;> rfl
  · rfl
theorem merge_log (H : Heap) (F : List Nat) (R : Heap) : (merge H F R).log = R.log ++ H.log := by
  unfold merge; split
  · rename_i h; rw [h]; cases Nat.beq R.next H.next <;> rfl
  · rename_i h; rw [h]
theorem merge_pc (H : Heap) (F : List Nat) (R : Heap) : (merge H F R).pc = R.pc := by
  unfold merge; split
  · cases Nat.beq R.next H.next <;> rfl
  · rfl
theorem merge_get (H : Heap) (F : List Nat) (R : Heap) (id : Nat) : (merge H F R).get id = match (if H.next ≤ id ∧ id < R.next then R.get id else none) with
    | some o => some o
    | none => look (updO F R H.next R.log H.objs) id := by
  have e1 : look (fresh H.next R.next R.objs) id = if H.next ≤ id ∧ id < R.next then R.get id else none := look_fresh _ _ _ _
  unfold merge
  split
  · rename_i h
    rw [h]
    cases hb : Nat.beq R.next H.next with
    | true =>
      have := Nat.eq_of_beq_eq_true hb
      rw [if_neg (by omega)]
      rfl
    | false =>
      show look (fresh H.next R.next R.objs ++ H.objs) id = _
      rw [look_append, e1]; rfl
  · rename_i a l h
    rw [h]
    show look (fresh H.next R.next R.objs ++ updO F R H.next (a :: l) H.objs) id = _
    rw [look_append, e1]
/-- What an operation touched. -/
def tchd (n : Nat) (F : List Nat) (R : Heap) (id : Nat) : Prop := (id ∈ R.log ∧ id ∈ F ∧ id < n) ∨ (n ≤ id ∧ id < R.next)
theorem Bd.restrict {H : Heap} (b : Bd H) (F : List Nat) : Bd (restrict H F) := fun id o h => by
  rw [get_restrict] at h
  rw [restrict_next]
  split at h
  · exact b id o h
  · cases h
theorem get_merge {H R : Heap} {F : List Nat} (lg : LG (restrict H F) R) (bd : Bd H) (id : Nat) :
    (tchd H.next F R id → ∀ o, (merge H F R).get id = some o → R.get id = some o) ∧ (¬ tchd H.next F R id → (merge H F R).get id = H.get id) ∧ Bd (merge H F R) := by
  obtain ⟨_, l, l1, l2, l3⟩ := lg (bd.restrict F)
  rw [restrict_log, List.append_nil] at l1
  subst l1
  rw [restrict_next] at l2 l3
  have hm := merge_get H F R
  have hu := fun id => look_updO F R H.next R.log H.objs id
  have hnone : ∀ id, H.next ≤ id → H.get id = none := fun id h => by
    cases hg : H.get id with
    | none => rfl
    | some o => have := bd id o hg; omega
  refine ⟨?_, ?_, ?_⟩
  · rintro (⟨h1, h2, h3⟩ | ⟨h1, h2⟩) o ho
    · rw [hm, if_neg (by omega)] at ho
      exact (hu id).2 ⟨h1, h2, h3⟩ o ho
    · rw [hm, if_pos ⟨h1, h2⟩] at ho
      cases hg : R.get id with
      | some o' => rw [hg] at ho; exact ho
      | none =>
        rw [hg] at ho
        have e : look (updO F R H.next R.log H.objs) id = H.get id := (hu id).1 fun h => by omega
        have ho' : look (updO F R H.next R.log H.objs) id = some o := ho
        rw [e, hnone id h1] at ho'; cases ho'
  · intro hn
    have h1 : ¬ (H.next ≤ id ∧ id < R.next) := fun h => hn (.inr h)
    rw [hm, if_neg h1]
    exact (hu id).1 fun h => hn (.inl h)
  · intro id o ho
    rw [merge_next]
    rw [hm] at ho
    by_cases h1 : H.next ≤ id ∧ id < R.next
    · exact h1.2
    · rw [if_neg h1] at ho
      by_cases h2 : id < H.next
      · omega
      · have e : look (updO F R H.next R.log H.objs) id = H.get id := (hu id).1 fun h => by omega
        have ho' : look (updO F R H.next R.log H.objs) id = some o := ho
        rw [e, hnone id (by omega)] at ho'; cases ho'
end
end Go.Proofs.Ytamibbjpapkfeaa.Ab
