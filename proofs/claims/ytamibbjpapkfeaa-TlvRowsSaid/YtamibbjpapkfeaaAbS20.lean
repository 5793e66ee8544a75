import Derived.Test.YtamibbjpapkfeaaAbS14
namespace Go.Proofs.Ytamibbjpapkfeaa.Ab
set_option linter.unusedSimpArgs false
set_option linter.unusedVariables false
open Go
set_option linter.unusedSectionVars false
variable [Rho]
section
variable {P : Program}

/-! ### order -/
theorem nth_eq {α : Type} : ∀ (l : List α) (i : Nat), nth l i = l[i]?
  | [], i => by simp [nth]
  | a :: l, 0 => by simp [nth]
  | a :: l, i + 1 => by simp [nth, nth_eq l i]
theorem bindsG_eq {e : Edge} (h : bindsG e.ground = true) : Region.binds .any e = true := by
  unfold Region.binds
  cases hg : e.ground <;> rw [hg] at h <;> first | rfl | (simp [bindsG] at h)
theorem bindsG_iff {e : Edge} : Region.binds .any e = true ↔ bindsG e.ground = true := by
  refine ⟨fun h => ?_, bindsG_eq⟩
  unfold Region.binds at h
  cases hg : e.ground <;> rw [hg] at h <;> first | rfl | (cases h; done) | (exact absurd h (by simp))
/-- X: what has been carried out; whatever an operation waits for was carried out ahead of it. -/
def Down (ops : Array Oper) (X : Nat → Bool) : Prop := ∀ i o, ops[i]? = some o → X i = true → ∀ e ∈ o.after.toList, bindsG e.ground = true → X e.on = true
theorem edgeTo_spec : ∀ (l : List Edge) (i : Nat), edgeTo l i = true → ∃ e ∈ l, e.on = i ∧ bindsG e.ground = true
  | [], i, h => by simp [edgeTo] at h
  | e :: l, i, h => by
    simp only [edgeTo] at h
    split at h
    · rename_i hb
      rcases Bool.or_eq_true_iff.1 h with h | h
      · exact ⟨e, by simp, Nat.eq_of_beq_eq_true hb, h⟩
      · obtain ⟨e', h1, h2⟩ := edgeTo_spec l i h; exact ⟨e', by simp [h1], h2⟩
    · obtain ⟨e', h1, h2⟩ := edgeTo_spec l i h; exact ⟨e', by simp [h1], h2⟩
theorem maskOf_spec (acc : List Nat) : ∀ (l : List Edge) (m i : Nat), Nat.testBit (maskOf acc l m) i = true → Nat.testBit m i = true ∨ ∃ e ∈ l, bindsG e.ground = true ∧ (e.on = i ∨ Nat.testBit ((nth acc e.on).getD 0) i = true)
  | [], m, i, h => .inl h
  | e :: l, m, i, h => by
    simp only [maskOf] at h
    split at h
    · rename_i hb
      rcases maskOf_spec acc l _ i h with h1 | ⟨e', h1, h2⟩
      · rw [Nat.testBit_or, Nat.testBit_or] at h1
        simp only [Bool.or_eq_true] at h1
        rcases h1 with (h1 | h1) | h1
        · exact .inl h1
        · rw [Nat.testBit_two_pow] at h1
          exact .inr ⟨e, by simp, hb, .inl (by simpa using h1)⟩
        · exact .inr ⟨e, by simp, hb, .inr h1⟩
      · exact .inr ⟨e', by simp [h1], h2⟩
    · rcases maskOf_spec acc l m i h with h1 | ⟨e', h1, h2⟩
      · exact .inl h1
      · exact .inr ⟨e', by simp [h1], h2⟩
def Good (ops : Array Oper) (X : Nat → Bool) (k m : Nat) : Prop := ∀ o, ops[k]? = some o → (∀ e ∈ o.after.toList, bindsG e.ground = true → X e.on = true) → ∀ i, Nat.testBit m i = true → X i = true
theorem befores_good {ops : Array Oper} {X : Nat → Bool} (hd : Down ops X) : ∀ (l : List Oper) (acc : List Nat), (∀ k : Nat, l[k]? = ops[acc.length + k]?) → (∀ k m, acc[k]? = some m → Good ops X k m) → ∀ k m, (befores l acc)[k]? = some m → Good ops X k m
  | [], acc, _, h, k, m, hk => h k m hk
  | o :: l, acc, hl, h, k, m, hk => by
    refine befores_good hd l (acc ++ [maskOf acc o.after.toList 0]) (fun k => ?_) (fun k m hk => ?_) k m hk
    · have := hl (k + 1)
      simp only [List.getElem?_cons_succ] at this
      rw [this]; congr 1; simp; omega
    · rcases Nat.lt_trichotomy k acc.length with h1 | h1 | h1
      · rw [List.getElem?_append_left h1] at hk; exact h k m hk
      · subst h1
        simp at hk; subst hk
        intro o' ho' hp i hi
        have : o' = o := by have := hl 0; simp at this; rw [← this] at ho'; cases ho'; rfl
        subst this
        rcases maskOf_spec acc _ 0 i hi with h2 | ⟨e, h2, h3, h4⟩
        · simp at h2
        · have hx := hp e h2 h3
          rcases h4 with h4 | h4
          · rw [← h4]; exact hx
          · rw [nth_eq] at h4
            cases hn : acc[e.on]? with
            | none => simp [hn] at h4
            | some m' =>
              simp [hn] at h4
              have hlt := (List.getElem?_eq_some_iff.1 hn).1
              have hsz : acc.length < ops.size := (Array.getElem?_eq_some_iff.1 ho').1
              have ho2 : ops[e.on]? = some (ops[e.on]'(by omega)) := Array.getElem?_eq_getElem _
              exact h e.on m' hn _ ho2 (hd e.on _ ho2 hx) i h4
      · rw [List.getElem?_eq_none (by simp; omega)] at hk; cases hk
/-- An operation that may come up now: the others that it is ordered with were carried out, or not, as they stand ahead of it, or behind. -/
theorem ord_spec {ops : Array Oper} {X : Nat → Bool} (hd : Down ops X) {i j : Nat} {oj : Oper} (hj : ops[j]? = some oj) (hp : ∀ e ∈ oj.after.toList, bindsG e.ground = true → X e.on = true) (hX : X j = false) (hi : i ≠ j) (h : ordB ops.toList i j = true) : X i = true ↔ i < j := by
  have key : ∀ {p q : Nat} {oq : Oper}, ops[q]? = some oq → (∀ e ∈ oq.after.toList, bindsG e.ground = true → X e.on = true) → befB ops.toList p q = true → X p = true := by
    intro p q oq hq hpq hb
    unfold befB at hb
    rcases Bool.or_eq_true_iff.1 hb with h1 | h1
    · rw [nth_eq] at h1
      simp [hq] at h1
      obtain ⟨e, h2, h3, h4⟩ := edgeTo_spec _ _ h1
      rw [← h3]; exact hpq e h2 h4
    · rw [nth_eq] at h1
      cases hn : (befores ops.toList [])[q]? with
      | none => simp [hn] at h1
      | some m =>
        simp [hn] at h1
        exact befores_good hd ops.toList [] (fun k => by simp) (fun k m h => by simp at h) q m hn oq hq hpq p h1
  unfold ordB at h
  split at h
  · rename_i hlt
    have hlt' : i < j := by simpa [Nat.blt_eq] using hlt
    exact ⟨fun _ => hlt', fun _ => key hj hp h⟩
  · rename_i hlt
    have hlt' : ¬ i < j := fun h => by rw [show Nat.blt i j = true from by rw [Nat.blt_eq]; exact h] at hlt; cases hlt
    refine ⟨fun hxi => ?_, fun hc => absurd hc hlt'⟩
    exfalso
    cases hoi : ops[i]? with
    | none =>
      unfold befB at h
      rw [nth_eq, nth_eq] at h
      have : ops.toList[i]? = none := by simpa using hoi
      simp only [this, Bool.false_or] at h
      cases hn : (befores ops.toList [])[i]? with
      | none => simp [hn] at h
      | some m =>
        have hlen : ∀ (l : List Oper) (acc : List Nat), (befores l acc).length = acc.length + l.length := by
          intro l
          induction l with
          | nil => intro acc; simp [befores]
          | cons o l ih => intro acc; simp [befores, ih]; omega
        have h1 := (List.getElem?_eq_some_iff.1 hn).1
        rw [hlen] at h1
        simp at h1
        simp [Array.getElem?_eq_getElem h1] at hoi
    | some oi =>
      have := key hoi (hd i oi hoi hxi) h
      rw [hX] at this; cases this
theorem dstsOf_spec : ∀ (l : List Oper) (k i : Nat) (o : Oper) (t : Tmp), l[i]? = some o → o.dst = some t → (t, k + i) ∈ dstsOf l k
  | [], k, i, o, t, h, _ => by simp at h
  | p :: l, k, i, o, t, h, hd => by
    cases i with
    | zero =>
      simp at h; subst h
      simp [dstsOf, hd]
    | succ i =>
      simp at h
      have := dstsOf_spec l (k + 1) i o t h hd
      have e : k + 1 + i = k + (i + 1) := by omega
      rw [e] at this
      simp only [dstsOf]
      split
      · exact List.mem_cons_of_mem _ this
      · exact this
theorem slotOk_spec (ops : List Oper) (t j : Nat) : ∀ (ds : List (Tmp × Nat)), slotOk ops t j ds = true → ∀ i, (t, i) ∈ ds → i ≠ j → ordB ops i j = true
  | [], _, i, h, _ => by simp at h
  | p :: l, h, i, hm, hi => by
    simp only [slotOk] at h
    rcases List.mem_cons.1 hm with e | hm
    · subst e
      simp only [Nat.beq_refl] at h
      simp only [Bool.and_eq_true, Bool.or_eq_true] at h
      rcases h.1 with h1 | h1
      · exact absurd (Nat.eq_of_beq_eq_true h1) hi
      · exact h1
    · split at h
      · exact slotOk_spec ops t j l (Bool.and_eq_true_iff.1 h).2 i hm hi
      · exact slotOk_spec ops t j l h i hm hi
theorem slotsOk_spec (ops : List Oper) (ds : List (Tmp × Nat)) (j : Nat) : ∀ (l : List Tmp), slotsOk ops ds j l = true → ∀ t ∈ l, slotOk ops t j ds = true
  | [], _, t, h => by simp at h
  | s :: l, h, t, hm => by
    simp only [slotsOk, Bool.and_eq_true] at h
    rcases List.mem_cons.1 hm with e | hm
    · subst e; exact h.1
    · exact slotsOk_spec ops ds j l h.2 t hm
theorem edgesOk_spec (j : Nat) : ∀ (l : List Edge), edgesOk j l = true → ∀ e ∈ l, bindsG e.ground = true → e.on < j
  | [], _, e, h, _ => by simp at h
  | d :: l, h, e, hm, hb => by
    simp only [edgesOk, Bool.and_eq_true, Bool.or_eq_true] at h
    rcases List.mem_cons.1 hm with q | hm
    · subst q
      rcases h.1 with h1 | h1
      · rw [hb] at h1; cases h1
      · simpa [Nat.blt_eq] using h1
    · exact edgesOk_spec j l h.2 e hm hb
theorem statGo_spec (ops : Array Oper) (ds : List (Tmp × Nat)) : ∀ (l : List Oper) (k : Nat), statGo ops ds l k = true → ∀ i o, l[i]? = some o → edgesOk (k + i) o.after.toList = true ∧ slotsOk ops.toList ds (k + i) (looks ops o) = true
  | [], k, _, i, o, h => by simp at h
  | p :: l, k, h, i, o, hi => by
    simp only [statGo, Bool.and_eq_true] at h
    cases i with
    | zero => simp at hi; subst hi; exact h.1
    | succ i =>
      simp at hi
      have := statGo_spec ops ds l (k + 1) h.2 i o hi
      have e : k + 1 + i = k + (i + 1) := by omega
      rw [e] at this; exact this
theorem statOk_spec {ops : Array Oper} (h : statOk ops = true) : Region.noSelect ops = true ∧ (∀ (j : Nat) (oj : Oper), ops[j]? = some oj → (∀ e ∈ oj.after.toList, bindsG e.ground = true → e.on < j) ∧
    ∀ (t : Tmp), t ∈ looks ops oj → ∀ (i : Nat) (oi : Oper), ops[i]? = some oi → oi.dst = some t → i ≠ j → ordB ops.toList i j = true) := by
  unfold statOk at h
  obtain ⟨h1, h2⟩ := Bool.and_eq_true_iff.1 h
  refine ⟨h1, fun j oj hj => ?_⟩
  obtain ⟨h3, h4⟩ := statGo_spec ops _ ops.toList 0 h2 j oj (by simpa using hj)
  simp only [Nat.zero_add] at h3 h4
  refine ⟨edgesOk_spec j _ h3, fun t ht i oi hi hd hij => ?_⟩
  have h5 := slotsOk_spec _ _ _ _ h4 t ht
  have h6 := dstsOf_spec ops.toList 0 i oi t (by simpa using hi) hd
  simp only [Nat.zero_add] at h6
  exact slotOk_spec _ _ _ _ h5 i h6 hij
end
end Go.Proofs.Ytamibbjpapkfeaa.Ab
