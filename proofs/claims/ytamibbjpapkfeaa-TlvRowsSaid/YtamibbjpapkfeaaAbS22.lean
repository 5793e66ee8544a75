import Derived.Test.YtamibbjpapkfeaaAbS23
namespace Go.Proofs.Ytamibbjpapkfeaa.Ab
set_option linter.unusedSimpArgs false
set_option linter.unusedVariables false
open Go
set_option linter.unusedSectionVars false
variable [Rho]
section
variable {P : Program}

theorem merge_LG {H R : Heap} {F : List Nat} (lg : LG (restrict H F) R) (bd : Bd H) : LG H (merge H F R) := fun _ => by
  have h := get_merge lg bd
  obtain ⟨_, l, l1, l2, l3⟩ := lg (bd.restrict F)
  rw [restrict_next] at l3
  refine ⟨(h 0).2.2, R.log, merge_log H F R, fun id hid hm => (h id).2.1 fun ht => ?_, by rw [merge_next]; exact l3⟩
  rcases ht with ⟨h1, _, _⟩ | ⟨h1, _⟩
  · exact hm h1
  · omega
theorem ordB_symm (ops : List Oper) {i j : Nat} (h : i ≠ j) : ordB ops i j = ordB ops j i := by
  unfold ordB
  rcases Nat.lt_or_gt_of_ne h with h1 | h1
  · have e1 : Nat.blt i j = true := by rw [Nat.blt_eq]; exact h1
    have e2 : Nat.blt j i = false := by
      cases hb : Nat.blt j i with
      | false => rfl
      | true => rw [Nat.blt_eq] at hb; omega
    rw [e1, e2]
  · have e1 : Nat.blt j i = true := by rw [Nat.blt_eq]; exact h1
    have e2 : Nat.blt i j = false := by
      cases hb : Nat.blt i j with
      | false => rfl
      | true => rw [Nat.blt_eq] at hb; omega
    rw [e1, e2]
theorem dynOk_spec {ops : List Oper} {rs : List Rec} (h : dynOk ops rs = true) {a b : Rec} (ha : a ∈ rs) (hb : b ∈ rs) (hc : clash a b = true) (hn : a.i ≠ b.i) : ordB ops a.i b.i = true := by
  unfold dynOk at h
  have h1 := List.all_eq_true.1 (List.all_eq_true.1 h a ha) b hb
  rw [hc] at h1
  simp only at h1
  rcases Bool.or_eq_true_iff.1 h1 with h2 | h2
  · exact absurd (Nat.eq_of_beq_eq_true h2) hn
  · exact h2

theorem hitsA_nil {kt : TypeId} {key : AV} : ∀ {es : List (AV × AV)}, hitsA P kt key es = some [] ↔ ∀ e ∈ es, eqA P eqDepth kt key e.1 = some (.cb false)
  | [] => by simp [hitsA]
  | e :: es => by
    simp only [hitsA]
    constructor
    · intro h
      split at h
      · cases h
      · rename_i l h1 h2
        cases h
        intro x hx
        rcases List.mem_cons.1 hx with rfl | hx
        · exact h1
        · exact hitsA_nil.1 h2 x hx
      · cases h
    · intro h
      rw [h e List.mem_cons_self, hitsA_nil.2 fun x hx => h x (List.mem_cons_of_mem _ hx)]
def prE (e : Ev) (id : Nat) : Option (AV × AV) := match e.note with
  | some (.ins _ id' _ k v) => bif Nat.beq id' id then some (k, v) else none
  | _ => none
def mkE (e : Ev) : Prop := ∃ j id, e.note = some (.mk j id)
/-- What is known of a region's run in the text's order. -/
structure Text (P : Program) (ops : Array Oper) (T : Nat → St) (E : Nat → Ev) (L : Nat → List Note) (tc : Nat → Nat → Prop) : Prop where
  step : ∀ (k : Nat) (o : Oper), ops[k]? = some o → StepE P ops o k (L k) (T k) (E k) (T (k + 1))
  l0 : L 0 = []
  noted : ∀ k, k < ops.size → L (k + 1) = notes (E k) (L k)
  tceq : ∀ k id, tc k id ↔ (E k).want = true ∧ tchd (T k).H.next (E k).F (E k).R id
  ord : ∀ i j id, i < ops.size → j < ops.size → i ≠ j → tc i id → (id ∈ (E j).F ∨ tc j id) → ordB ops.toList i j = true
theorem Text.facts {ops : Array Oper} {T : Nat → St} {E : Nat → Ev} {L : Nat → List Note} {tc : Nat → Nat → Prop} (t : Text P ops T E L tc) (hb : Bd (T 0).H) : ∀ k, k ≤ ops.size →
    Bd (T k).H ∧ (∀ id, (T k).H.get id = sX (T 0).H.get tc (fun k id => (T (k + 1)).H.get id) (fun _ => true) k id) ∧
    (∀ s, lk (T k).fr s = fX (lk (T 0).fr) (fun k => (ops[k]?).bind (·.dst)) (fun k => (E k).v) (fun _ => true) k s) ∧ (T k).nt = (T 0).nt ∧ (T k).df = (T 0).df ∧ (∀ i, i ≤ k → (T i).H.next ≤ (T k).H.next)
  | 0, _ => ⟨hb, fun _ => rfl, fun _ => rfl, rfl, rfl, fun i hi => (by
      have : i = 0 := by omega
      rw [this]; exact Nat.le_refl _)⟩
  | k + 1, hk => by
    obtain ⟨f1, f2, f3, f4, f5, f6⟩ := Text.facts t hb k (by omega)
    have hok : ops[k]? = some (ops[k]'(by omega)) := Array.getElem?_eq_getElem _
    obtain ⟨s1, s2, s3, s4, s5, s6⟩ := t.step k _ hok
    have heap : Bd (T (k + 1)).H ∧ (∀ id, ¬ tc k id → (T (k + 1)).H.get id = (T k).H.get id) ∧ (T k).H.next ≤ (T (k + 1)).H.next := by
      cases hw : (E k).want with
      | true =>
        obtain ⟨lg, q2, _⟩ := s5 hw
        refine ⟨?_, fun id ht => ?_, ?_⟩
        · rw [q2]; exact (get_merge lg f1 0).2.2
        · rw [q2]; exact (get_merge lg f1 id).2.1 fun h => ht ((t.tceq k id).2 ⟨hw, h⟩)
        · rw [q2]
          obtain ⟨_, l, _, _, l3⟩ := lg (f1.restrict _)
          rw [restrict_next] at l3; rw [merge_next]; exact l3
      | false =>
        obtain ⟨q1, ⟨pc, q2⟩, q3, _⟩ := s6 hw
        rw [q2]
        exact ⟨f1, fun _ _ => rfl, Nat.le_refl _⟩
    obtain ⟨g1, g2, g3⟩ := heap
    refine ⟨g1, fun id => ?_, fun s => ?_, s3.trans f4, s4.trans f5, fun i hi => ?_⟩
    · simp only [sX]
      split
      · rfl
      · rename_i h
        rw [g2 id (fun ht => h ⟨rfl, ht⟩)]; exact f2 id
    · simp only [fX, hok, Option.bind_some]
      rcases putA_eq s2 with ⟨h1, h2⟩ | ⟨d, h1, h2, h3⟩
      · rw [h2, if_neg (by simp [h1])]; exact f3 s
      · rw [h3, lk_cons, h1]
        by_cases e : s = d
        · subst e; simp
        · rw [if_neg e, if_neg (by simp; exact fun h => e h.symm)]; exact f3 s
    · rcases Nat.lt_or_ge i (k + 1) with h | h
      · exact Nat.le_trans (f6 i (by omega)) g3
      · have : i = k + 1 := by omega
        subst this; exact Nat.le_refl _

theorem Text.mem {ops : Array Oper} {T : Nat → St} {E : Nat → Ev} {L : Nat → List Note} {tc : Nat → Nat → Prop} (t : Text P ops T E L tc) (x : Note) : ∀ k, k ≤ ops.size → (x ∈ L k ↔ ∃ i, i < k ∧ (E i).note = some x)
  | 0, _ => by rw [t.l0]; simp
  | k + 1, hk => by
    rw [t.noted k (by omega)]
    have ih := Text.mem t x k (by omega)
    unfold notes
    constructor
    · intro h
      split at h
      · obtain ⟨i, h1, h2⟩ := ih.1 h; exact ⟨i, by omega, h2⟩
      · rename_i n hn
        rcases List.mem_cons.1 h with rfl | h
        · exact ⟨k, by omega, hn⟩
        · obtain ⟨i, h1, h2⟩ := ih.1 h; exact ⟨i, by omega, h2⟩
    · rintro ⟨i, h1, h2⟩
      rcases Nat.lt_or_ge i k with h3 | h3
      · have := ih.2 ⟨i, h3, h2⟩
        split
        · exact this
        · exact List.mem_cons_of_mem _ this
      · have : i = k := by omega
        subst this
        rw [h2]; exact List.mem_cons_self
theorem Text.noteW {ops : Array Oper} {T : Nat → St} {E : Nat → Ev} {L : Nat → List Note} {tc : Nat → Nat → Prop} (t : Text P ops T E L tc) {k : Nat} (hk : k < ops.size) {x : Note} (hx : (E k).note = some x) : (E k).want = true := by
  have hok : ops[k]? = some (ops[k]'hk) := Array.getElem?_eq_getElem _
  cases hw : (E k).want with
  | true => rfl
  | false =>
    have := ((t.step k _ hok).2.2.2.2.2 hw).2.2.2
    rw [hx] at this; cases this
theorem Text.mkS {ops : Array Oper} {T : Nat → St} {E : Nat → Ev} {L : Nat → List Note} {tc : Nat → Nat → Prop} (t : Text P ops T E L tc) {k : Nat} (hk : k < ops.size) {j id : Nat} (hx : (E k).note = some (.mk j id)) : j = k ∧ id = (T k).H.next ∧ (T (k + 1)).H.next = (T k).H.next + 1 := by
  have hok : ops[k]? = some (ops[k]'hk) := Array.getElem?_eq_getElem _
  obtain ⟨_, h2, h3⟩ := (t.step k _ hok).2.2.2.2.1 (t.noteW hk hx)
  unfold DidS at h3
  rw [hx] at h3
  obtain ⟨h4, h5, _, _, h6, _⟩ := h3
  exact ⟨h4, h5, by rw [h2, merge_next, h6]⟩
theorem mem_pairsX {pr : Nat → Option (AV × AV)} {X : Nat → Bool} {p : AV × AV} : ∀ n, p ∈ pairsX pr X n → ∃ i, i < n ∧ X i = true ∧ pr i = some p
  | 0, h => by simp [pairsX] at h
  | n + 1, h => by
    rw [pairsX_succ] at h
    rcases List.mem_append.1 h with h | h
    · obtain ⟨i, h1, h2, h3⟩ := mem_pairsX n h; exact ⟨i, by omega, h2, h3⟩
    · cases hX : X n with
      | false => rw [hX] at h; simp at h
      | true =>
        rw [hX] at h
        exact ⟨n, by omega, hX, by simpa [Option.mem_toList] using h⟩
theorem mem_litBut {id i j : Nat} {t : TypeId} {k v : AV} (hne : j ≠ i) : ∀ {ns : List Note}, Note.ins j id t k v ∈ ns → (k, v) ∈ litBut id i ns
  | [], h => by simp at h
  | .mk a b :: l, h => by
    simp only [litBut]
    exact mem_litBut hne (by simpa using h)
  | .ins a b c d e :: l, h => by
    simp only [litBut]
    rcases List.mem_cons.1 h with h1 | h1
    · cases h1
      rw [show Nat.beq id id = true by simp, show Nat.beq j i = false by
        cases hb : Nat.beq j i with
        | false => rfl
        | true => exact absurd (Nat.eq_of_beq_eq_true hb) hne]
      exact List.mem_cons_self
    · have := mem_litBut hne (i := i) h1
      cases Nat.beq b id <;> cases Nat.beq a i <;> simp [this]
theorem prE_some {e : Ev} {id : Nat} {k v : AV} (h : prE e id = some (k, v)) : ∃ j t, e.note = some (.ins j id t k v) := by
  unfold prE at h
  split at h
  · rename_i j id' t k' v' hn
    cases hb : Nat.beq id' id with
    | true =>
      rw [hb] at h; cases h
      have := Nat.eq_of_beq_eq_true hb
      subst this; exact ⟨j, t, hn⟩
    | false => rw [hb] at h; cases h
  · cases h
theorem Text.insS {ops : Array Oper} {T : Nat → St} {E : Nat → Ev} {L : Nat → List Note} {tc : Nat → Nat → Prop} (t : Text P ops T E L tc) {k : Nat} (hk : k < ops.size) {j id : Nat} {ty : TypeId} {key v : AV} (hx : (E k).note = some (.ins j id ty key v)) : j = k := by
  have hok : ops[k]? = some (ops[k]'hk) := Array.getElem?_eq_getElem _
  obtain ⟨_, h2, h3⟩ := (t.step k _ hok).2.2.2.2.1 (t.noteW hk hx)
  unfold DidS at h3
  rw [hx] at h3
  exact h3.1
theorem Text.all {ops : Array Oper} {T : Nat → St} {E : Nat → Ev} {L : Nat → List Note} {tc : Nat → Nat → Prop} (t : Text P ops T E L tc) (id : Nat) {X : Nat → Bool} : ∀ k, k ≤ ops.size → (∀ i, i < k → X i = true) → pairsX (fun i => prE (E i) id) X k = (litAll id (L k)).reverse
  | 0, _, _ => by rw [t.l0]; rfl
  | k + 1, hk, hX => by
    rw [pairsX_succ, Text.all t id k (by omega) fun i hi => hX i (by omega), hX k (by omega), t.noted k (by omega)]
    unfold notes prE
    cases hn : (E k).note with
    | none => simp
    | some x =>
      cases x with
      | mk a b => simp [litAll]
      | ins a b c d e =>
        simp only [litAll]
        cases Nat.beq b id <;> simp

section main
variable {ops : Array Oper} {T : Nat → St} {E : Nat → Ev} {L : Nat → List Note} {tc : Nat → Nat → Prop} {μ0 : Mu} {w0 : World} {Q : Exit → Act → World → Prop}
/-- The invariant, for this region. -/
abbrev InvT (P : Program) (ops : Array Oper) (T : Nat → St) (E : Nat → Ev) (tc : Nat → Nat → Prop) (μ0 : Mu) (w0 : World) (X : Nat → Bool) (μ : Mu) (a : Act) (w : World) : Prop :=
  Inv P ops.size (T 0).nt (T 0).df (lk (T 0).fr) (T 0).H.get (fun k => (T k).H.next) (fun k => (ops[k]?).bind (·.dst)) (fun k => (E k).v) tc (fun k id => (T (k + 1)).H.get id) μ0 w0 X μ a w
abbrev LitT (ops : Array Oper) (T : Nat → St) (E : Nat → Ev) (tc : Nat → Nat → Prop) (w0 : World) (X : Nat → Bool) (μ : Mu) (w : World) : Prop :=
  Lits w0 ops.size (fun k => mkE (E k)) (fun k => (T k).H.next) (fun id k => prE (E k) id) X μ w (sX (T 0).H.get tc (fun k id => (T (k + 1)).H.get id) X ops.size)
theorem Evo.less {μ μ' : Mu} {h h' h2 : Nat → Option AObj} {n n' : Nat} {w w' : World} (e : Evo μ h n w μ' h' n' w') (hs : ∀ id o, h2 id = some o → h' id = some o) : Evo μ h n w μ' h2 n' w' :=
  ⟨e.ext, ⟨fun id o ho => e.rep.obj id o (hs id o ho), fun i j oi oj li lj h1 h2 => e.rep.inj i j oi oj li lj (hs i oi h1) (hs j oj h2)⟩, e.lo, e.dom, e.old, e.keep, fun b m hb => (by
    obtain ⟨j, o, l, m1, m2, m3, m4⟩ := m
    exact e.mine b ⟨j, o, l, hs j o m1, m2, m3, m4⟩ hb), fun id o ho => e.live id o (hs id o ho), e.size, e.os, e.tape, e.output⟩
theorem region_step (t : Text P ops T E L tc) (hlit : (L ops.size).all (litOk P (L ops.size)) = true) (hb : Bd (T 0).H) (hst : statOk ops = true) {X : Nat → Bool} {μ : Mu} {a : Act} {w : World} (I : InvT P ops T E tc μ0 w0 X μ a w) (J : LitT ops T E tc w0 X μ w) (hd : Down ops X) {j : Nat} {oj : Oper} (hj : ops[j]? = some oj)
    (hp : ∀ e ∈ oj.after.toList, bindsG e.ground = true → X e.on = true) (hX : X j = false) : wpOp P ops Q j (fun a' w' => ∃ μ', InvT P ops T E tc μ0 w0 (fun i => if i = j then true else X i) μ' a' w' ∧ LitT ops T E tc w0 (fun i => if i = j then true else X i) μ' w') a w := by
  have hjn : j < ops.size := (Array.getElem?_eq_some_iff.1 hj).1
  obtain ⟨f1, f2, f3, f4, f5, f6⟩ := t.facts hb j (by omega)
  obtain ⟨g1, g2, g3, g4, g5, g6⟩ := t.facts hb (j + 1) (by omega)
  obtain ⟨_, hstat⟩ := statOk_spec hst
  obtain ⟨he, hslot⟩ := hstat j oj hj
  obtain ⟨s1, s2, s3, s4, s5, s6⟩ := t.step j oj hj
  have hmono : ∀ i k, i ≤ k → k ≤ ops.size → (T i).H.next ≤ (T k).H.next := fun i k h1 h2 => (t.facts hb k h2).2.2.2.2.2 i h1
  have hordS : ∀ s, s ∈ looks ops oj → ∀ i, i ≠ j → (ops[i]?).bind (·.dst) = some s → (X i = true ↔ i < j) := fun s hs i hi hdi => by
    cases ho : ops[i]? with
    | none => simp [ho] at hdi
    | some oi =>
      simp [ho] at hdi
      exact ord_spec hd hj hp hX hi (hslot s hs i oi ho hdi hi)
  have hordO : ∀ id i, i ≠ j → tc i id → (id ∈ (E j).F ∨ tc j id) → (X i = true ↔ i < j) := fun id i hi ht hor => by
    rcases Nat.lt_or_ge i ops.size with h1 | h1
    · exact ord_spec hd hj hp hX hi (t.ord i j id h1 hjn hi ht hor)
    · refine ⟨fun h => ?_, fun h => by omega⟩
      have := I.inn i h; omega
  -- the slots that it looks at
  have hfr : FRel (cutMu μ (T j).H.next) (narrow ops oj (T j).fr) a.tmps := fun s v hs => by
    obtain ⟨hm, hl⟩ := lk_nar _ _ s v hs
    have hm' : s ∈ looks ops oj := List.mem_append_left _ hm
    rw [f3 s] at hl
    have hag : fX (lk (T 0).fr) (fun k => (ops[k]?).bind (·.dst)) (fun k => (E k).v) X j s = some v := by
      rw [← hl]
      refine fX_agree s j fun i hi hdi => ?_
      rw [(hordS s hm' i (by omega) hdi).2 hi]
    refine I.fr j (by omega) s v (fun i hi hx hdi => ?_) hag
    by_cases e : i = j
    · subst e; rw [hX] at hx; cases hx
    · have := (hordS s hm' i e hdi).1 hx
      omega
  have hsX : ∀ id, id ∈ (E j).F → sX (T 0).H.get tc (fun k id => (T (k + 1)).H.get id) X ops.size id = (T j).H.get id ∧ sX (T 0).H.get tc (fun k id => (T (k + 1)).H.get id) X j id = (T j).H.get id ∧ ∀ i, j ≤ i → X i = true → ¬ tc i id := fun id hF => by
    have h1 : ∀ i, j ≤ i → X i = true → ¬ tc i id := fun i hi hx ht => by
      by_cases e : i = j
      · subst e; rw [hX] at hx; cases hx
      · have := (hordO id i e ht (.inl hF)).1 hx
        omega
    have h2 : sX (T 0).H.get tc (fun k id => (T (k + 1)).H.get id) X j id = (T j).H.get id := by
      rw [f2 id]
      refine sX_agree id j fun i hi ht => ?_
      rw [(hordO id i (by omega) ht (.inl hF)).2 hi]
    exact ⟨by rw [sX_skip id j ops.size (by omega) fun i hi _ hx => h1 i hi hx]; exact h2, h2, h1⟩
  have hR0 : ∀ id o, (restrict (T j).H (E j).F).get id = some o → id ∈ (E j).F ∧ sX (T 0).H.get tc (fun k id => (T (k + 1)).H.get id) X ops.size id = some o := fun id o h => by
    rw [get_restrict] at h
    split at h
    · rename_i hF
      have hF' : id ∈ (E j).F := by simpa using hF
      exact ⟨hF', by rw [(hsX id hF').1]; exact h⟩
    · cases h
  have hRF : ∀ id o, id ∈ (E j).F → sX (T 0).H.get tc (fun k id => (T (k + 1)).H.get id) X ops.size id = some o → (restrict (T j).H (E j).F).get id = some o := fun id o hF h => by
    rw [get_restrict, if_pos (by simpa using hF), ← (hsX id hF).1]; exact h
  have hrep : Rep (cutMu μ (T j).H.next) (restrict (T j).H (E j).F).get w := by
    refine ⟨fun id o h => ?_, fun p q op oq lp lq h1 h2 hpq ho h3 h4 => ?_⟩
    · obtain ⟨hF, hs⟩ := hR0 id o h
      obtain ⟨k1, k2, k3⟩ := hsX id hF
      exact I.ob j (by omega) id o k3 (by rw [k2, ← k1]; exact hs)
    · exact I.inj p q op oq lp lq (hR0 p op h1).2 (hR0 q oq h2).2 hpq ho (cutMu_some h3).2 (cutMu_some h4).2
  have hdom : Dom (cutMu μ (T j).H.next) (T j).H.next := fun id h => by unfold cutMu; rw [if_neg (by omega)]
  have hdst : ∀ s, (ops[j]?).bind (·.dst) = some s → s < (T 0).nt ∧ ∀ i, i ≠ j → (ops[i]?).bind (·.dst) = some s → (X i = true ↔ i < j) := fun s hs => by
    simp [hj] at hs
    refine ⟨?_, fun i hi hdi => hordS s (List.mem_append_right _ (by simp [hs])) i hi hdi⟩
    rcases putA_eq s2 with ⟨h1, _⟩ | ⟨d, h1, h2, _⟩
    · rw [h1] at hs; cases hs
    · rw [hs] at h1; cases h1
      rw [← f4]; exact h2
  have hgo : (ops[j]?).bind (·.dst) = oj.dst := by simp [hj]
  have hF0 : ∀ id, id ∈ (E j).F → (T j).H.next ≤ id → sX (T 0).H.get tc (fun k id => (T (k + 1)).H.get id) X ops.size id = none := fun id hF h => by
    rw [(hsX id hF).1]
    cases hg : (T j).H.get id with
    | none => rfl
    | some o => have := f1 id o hg; omega
  unfold wpOp
  simp only [hj]
  rw [s1 hfr]
  cases hw : (E j).want with
  | true =>
    obtain ⟨lg, q2, q3⟩ := s5 hw
    simp only [if_true]
    left
    have hnx1 : (T (j + 1)).H.next = (E j).R.next := by rw [q2, merge_next]
    have hA : ∀ id o, tc j id → (T (j + 1)).H.get id = some o → (E j).R.get id = some o := fun id o ht ho => by
      rw [q2] at ho
      exact (get_merge lg f1 id).1 ((t.tceq j id).1 ht).2 o ho
    have htc : ∀ id, tc j id → ∀ i, i ≠ j → tc i id → (X i = true ↔ i < j) := fun id ht i hi hti => hordO id i hi hti (.inr ht)
    have step : ∀ {μ' : Mu} {w' : World} {c : Value}, Evo (cutMu μ (T j).H.next) (restrict (T j).H (E j).F).get (T j).H.next w μ' (E j).R.get (T (j + 1)).H.next w' → VR μ' (E j).v c →
        InvT P ops T E tc μ0 w0 (fun i => if i = j then true else X i) (fun id => if (T j).H.next ≤ id ∧ id < (T (j + 1)).H.next then μ' id else μ id) (a.put oj.dst c) w' := fun {μ' w' c} ev hv => by
      have hres := Inv.step I hmono hjn hX hdst hR0 hRF htc hA (fun id o ht ho => ?_) (fun id ht => ?_) ev hv hF0
      · rw [hgo] at hres
        exact hres
      · obtain ⟨hF, _⟩ := hR0 id o ho
        have hid : id < (T j).H.next := by
          rw [get_restrict, if_pos (by simpa using hF)] at ho
          exact f1 id o ho
        obtain ⟨_, l, l1, l2, _⟩ := lg (f1.restrict _)
        rw [restrict_log, List.append_nil] at l1
        rw [l2 id (by rw [restrict_next]; exact hid) fun hm => ht ((t.tceq j id).2 ⟨hw, .inl ⟨l1 ▸ hm, hF, hid⟩⟩)]
        exact ho
      · rcases ((t.tceq j id).1 ht).2 with ⟨_, h2, _⟩ | ⟨h1, h2⟩
        · exact .inl h2
        · exact .inr ⟨h1, by rw [hnx1]; exact h2⟩
    have link : ∀ {μ' : Mu} {w' : World}, Evo (cutMu μ (T j).H.next) (restrict (T j).H (E j).F).get (T j).H.next w μ' (E j).R.get (T (j + 1)).H.next w' →
        Lk (sX (T 0).H.get tc (fun k id => (T (k + 1)).H.get id) X ops.size) μ w (fun id => if (T j).H.next ≤ id ∧ id < (T (j + 1)).H.next then μ' id else μ id) w' (sX (T 0).H.get tc (fun k id => (T (k + 1)).H.get id) (fun i => if i = j then true else X i) ops.size) := fun {μ' w'} ev =>
      Inv.link I hmono hjn hX hR0 htc hA ev
    unfold DidS at q3
    cases hnote : (E j).note with
    | none =>
      rw [hnote] at q3
      refine q3.2 hfr hrep (by rw [restrict_next]; exact hdom) fun μ' c w' dl ev hv hdl => ?_
      cases hdl
      rw [restrict_next, ← hnx1] at ev
      exact ⟨_, step ev hv, J.other hX (fun id => by simp [prE, hnote]) (fun ⟨_, _, h⟩ => by rw [hnote] at h; cases h) (link ev)⟩
    | some nt =>
      rw [hnote] at q3
      cases nt with
      | mk j' id =>
        obtain ⟨r1, r2, r3, r4, r5, r6, r7, r8⟩ := q3
        subst r1; subst r2
        have hRn : ∀ id o, (E j').R.get id = some o → ((restrict (T j').H []).new (.map [])).get id = some o := fun id o h => by
          unfold Heap.get at h; rw [r7] at h; cases h
        rw [r3] at hrep
        refine r8.2 hfr hrep (by rw [restrict_next]; exact hdom) fun μ' c w' dl ev0 hv hdl => ?_
        cases hdl
        have ev : Evo (cutMu μ (T j').H.next) (restrict (T j').H (E j').F).get (T j').H.next w μ' (E j').R.get (T (j' + 1)).H.next w' := by
          rw [hnx1, r5, r3]; exact ev0.less hRn
        have hgot : ((restrict (T j').H []).new (.map [])).get (T j').H.next = some (.map []) := by
          show look ((_, _) :: _) _ = _
          rw [show look (((restrict (T j').H []).next, AObj.map []) :: (restrict (T j').H []).objs) (T j').H.next = @Bool.rec (fun _ => Option AObj) (look (restrict (T j').H []).objs (T j').H.next) (some (AObj.map [])) (Nat.beq (restrict (T j').H []).next (T j').H.next) from rfl, restrict_next, show Nat.beq (T j').H.next (T j').H.next = true by simp]
        obtain ⟨l, ents, clock, es, e1, e2, e3, e4⟩ := ev0.rep.obj _ _ hgot
        have hcn : cutMu μ (T j').H.next (T j').H.next = none := by unfold cutMu; rw [if_neg (by omega)]
        have hlb : w.heap.size ≤ l.b := by
          rcases (ev0.old _ l e1 hcn).2 with h1 | ⟨q, o, lq, h1, _⟩
          · exact h1
          · exfalso
            unfold Heap.get restrict pickO at h1; cases h1
        have hn1 : (T (j' + 1)).H.next = (T j').H.next + 1 := by rw [hnx1, r5]
        have hμid : (if (T j').H.next ≤ (T j').H.next ∧ (T j').H.next < (T (j' + 1)).H.next then μ' (T j').H.next else μ (T j').H.next) = some l := by
          rw [if_pos (by omega)]; exact e1
        have hext : Ext μ' (fun id => if (T j').H.next ≤ id ∧ id < (T (j' + 1)).H.next then μ' id else μ id) := fun id lq hq => by
          show (if _ then _ else _) = _
          split
          · exact hq
          · rename_i hnot
            cases hc : cutMu μ (T j').H.next id with
            | some l2 =>
              have := ev0.ext id l2 hc
              rw [hq] at this; cases this
              exact (cutMu_some hc).2
            | none =>
              have h1 := (ev0.old id lq hq hc).1
              rw [restrict_next] at h1
              rcases Nat.lt_or_ge id (T (j' + 1)).H.next with h2 | h2
              · exact absurd ⟨h1, h2⟩ hnot
              · rw [ev.dom id h2] at hq; cases hq
        have st := step ev (by rw [r4]; exact hv)
        refine ⟨_, st, J.make hX (fun id => by simp [prE, hnote]) hjn ⟨_, _, hnote⟩ I.size (link ev) hμid hlb e2 e3 ⟨e4.1.ext hext, e4.2.ext hext⟩ fun q o lq ho hq he => ?_⟩
        -- no object lies there
        have hlast : sX (T 0).H.get tc (fun k id => (T (k + 1)).H.get id) (fun i => if i = j' then true else X i) ops.size q = sX (T 0).H.get tc (fun k id => (T (k + 1)).H.get id) X ops.size q ∧ ¬ tc j' q := by
          have hnt : ¬ tc j' q := fun ht => by
            have ht2 := ((t.tceq j' q).1 ht).2
            have hX' : ∀ i, i ≠ j' → (if i = j' then true else X i) = X i := fun i h => by simp [h]
            have e1 : sX (T 0).H.get tc (fun k id => (T (k + 1)).H.get id) (fun i => if i = j' then true else X i) ops.size q = (T (j' + 1)).H.get q := by
              rw [sX_skip q (j' + 1) ops.size hjn fun i hi hi' hx ht' => ?_]
              · simp [sX, ht]
              · have hne : i ≠ j' := by omega
                simp only [hX' i hne] at hx
                have := (htc q ht i hne ht').1 hx
                omega
            rw [e1] at ho
            have := hA q o ht ho
            unfold Heap.get at this; rw [r7] at this; cases this
          exact ⟨sX_agree q ops.size fun i _ hi => by simp [show i ≠ j' from fun e => hnt (e ▸ hi)], hnt⟩
        rw [hlast.1] at ho
        obtain ⟨l', hl', hlt⟩ := (I.ob ops.size (Nat.le_refl _) q o (fun i hi hx => by have := I.inn i hx; omega) ho).mu
        have h3 := (link ev).ext q l' (cutMu_some hl').2
        rw [hq] at h3; cases h3
        omega
      | ins j' id ty key v =>
        obtain ⟨r1, r2, r3, r4, r5, r6, r7, ⟨m, kx, x, o1, o2, o3, o4⟩, r8, i0, hi0⟩ := q3
        subst r1
        obtain ⟨m0, hm0j, hm0⟩ := (t.mem _ j' (by omega)).1 hi0
        obtain ⟨n1, n2, n3⟩ := t.mkS (by omega) hm0
        subst n1; subst n2
        have hmn : i0 < ops.size := by omega
        have vm := evalA_VR hfr o2
        obtain ⟨l0, hl0, hcm⟩ := vm
        have hμ0 := (cutMu_some hl0).2
        have hXm : X i0 = true := by
          rcases I.dom _ l0 hμ0 with h1 | ⟨i, h1, h2, h3, h4⟩
          · have := hmono 0 i0 (Nat.zero_le _) (by omega); omega
          · have : i = i0 := by
              rcases Nat.lt_trichotomy i i0 with h5 | h5 | h5
              · have := hmono (i + 1) i0 h5 (by omega); omega
              · exact h5
              · have := hmono (i0 + 1) i h5 (by omega); omega
            subst this; exact h2
        have hnomk : ¬ mkE (E j') := fun ⟨_, _, h⟩ => by rw [hnote] at h; cases h
        unfold keyOk at r8
        split at r8
        · rename_i kt et hu
          obtain ⟨k1, k2⟩ := Bool.and_eq_true_iff.1 r8
          have hmemL : Note.ins j' (T i0).H.next ty key v ∈ L ops.size := (t.mem _ _ (Nat.le_refl _)).2 ⟨j', hjn, hnote⟩
          have hh : hitsA P kt key (pairsX (fun k => prE (E k) (T i0).H.next) X ops.size) = some [] := by
            have h1 := List.all_eq_true.1 hlit _ hmemL
            unfold litOk at h1
            simp only [hu] at h1
            split at h1
            · rename_i h2
              refine hitsA_nil.2 fun e he => hitsA_nil.1 h2 e ?_
              obtain ⟨i, h3, h4, h5⟩ := mem_pairsX _ he
              obtain ⟨j2, t2, h6⟩ := prE_some (k := e.1) (v := e.2) h5
              have h7 := t.insS h3 h6
              subst h7
              refine mem_litBut (j := j2) (t := t2) (fun e => by subst e; rw [hX] at h4; cases h4) ((t.mem _ _ (Nat.le_refl _)).2 ⟨j2, h3, h6⟩)
            · cases h1
          obtain ⟨l, ents, clock, h1, h2, h3, h4, h5⟩ := J.insert (m0 := i0) hX hjn (k := key) (v := v) (by simp [prE, hnote]) hXm hnomk ⟨_, _, hm0⟩ hmn
            (fun id hid => by
              simp only [prE, hnote]
              cases hb : Nat.beq (T i0).H.next id with
              | false => rfl
              | true => exact absurd (Nat.eq_of_beq_eq_true hb).symm hid)
            (fun m hm hmk hne he => by
              obtain ⟨a1, a2, ha⟩ := hmk
              obtain ⟨_, _, p3⟩ := t.mkS hm ha
              rcases Nat.lt_or_gt_of_ne hne with h6 | h6
              · have := hmono (m + 1) i0 h6 (by omega); omega
              · have := hmono (i0 + 1) m h6 (by omega); omega)
            hu k1 k2 ((evalA_VR hfr o3).ext (cutMu_ext _ _)) ((evalA_VR hfr o4).ext (cutMu_ext _ _)) hh
          have hll : l = l0 := by rw [hμ0] at h1; cases h1; rfl
          subst hll
          have hnt : ∀ id, ¬ tc j' id := fun id ht => by
            rcases ((t.tceq j' id).1 ht).2 with ⟨h6, _, _⟩ | ⟨h6, h7⟩
            · rw [r4] at h6; cases h6
            · rw [r3] at h7; omega
          have hI := Inv.other I hjn (by simp [hj, r6]) hnt h2 (.map ents clock) h3
          have hsame : sX (T 0).H.get tc (fun k id => (T (k + 1)).H.get id) (fun i => if i = j' then true else X i) ops.size = sX (T 0).H.get tc (fun k id => (T (k + 1)).H.get id) X ops.size := funext fun q =>
            sX_agree q ops.size fun i _ hi => by simp [show i ≠ j' from fun e => hnt q (e ▸ hi)]
          have hrun : (execOp a.eval oj).run P w = .ok .skip { w with heap := w.heap.setIfInBounds l.b (.map ents clock) } := by
            rw [← hcm] at h4
            unfold execOp
            rw [o1]
            exact run_u h4
          unfold Oper.wp
          rw [hrun]
          have hfin : ∃ μ', InvT P ops T E tc μ0 w0 (fun i => if i = j' then true else X i) μ' a { w with heap := w.heap.setIfInBounds l.b (.map ents clock) } ∧ LitT ops T E tc w0 (fun i => if i = j' then true else X i) μ' { w with heap := w.heap.setIfInBounds l.b (.map ents clock) } :=
            ⟨μ, hI, by unfold LitT; rw [hsame]; exact h5⟩
          show ∃ μ', InvT P ops T E tc μ0 w0 (fun i => if i = j' then true else X i) μ' (a.put oj.dst undef) _ ∧ _
          rw [r6]
          exact hfin
        · cases r8
  | false =>
    obtain ⟨q1, ⟨pc, q2⟩, q3, q4⟩ := s6 hw
    simp only [Bool.false_eq_true, if_false]
    have hnt : ∀ id, ¬ tc j id := fun id ht => by
      have := ((t.tceq j id).1 ht).1
      rw [hw] at this; cases this
    have ev : Evo (cutMu μ (T j).H.next) (restrict (T j).H (E j).F).get (T j).H.next w (cutMu μ (T j).H.next) (restrict (T j).H (E j).F).get (T (j + 1)).H.next w := by
      rw [q2]
      exact Evo.refl hrep hdom
    have hres := Inv.step I hmono hjn hX hdst hR0 hRF (fun id ht => absurd ht (hnt id)) (fun id o ht => absurd ht (hnt id)) (fun id o _ ho => ho) (fun id ht => absurd ht (hnt id)) ev (c := undef) (by show VR _ (E j).v undef; rw [q1]; exact undef_VR _) hF0
    have hlink := Inv.link I hmono hjn hX hR0 (fun id ht => absurd ht (hnt id)) (fun id o ht => absurd ht (hnt id)) ev
    rw [hgo] at hres
    exact ⟨_, hres, J.other hX (fun id => by simp [prE, q4]) (fun ⟨_, _, h⟩ => by rw [q4] at h; cases h) hlink⟩
theorem region_all (t : Text P ops T E L tc) (hlit : (L ops.size).all (litOk P (L ops.size)) = true) (hb : Bd (T 0).H) (hst : statOk ops = true)
    (hq : ∀ X μ a w, InvT P ops T E tc μ0 w0 X μ a w → LitT ops T E tc w0 X μ w → (∀ i, i < ops.size → X i = true) → Q .normal a w) :
    ∀ (fuel : Nat) (listed : Array Bool) (μ : Mu) (a : Act) (w : World), listed.size = ops.size → InvT P ops T E tc μ0 w0 (fun i => listed.getD i false) μ a w → LitT ops T E tc w0 (fun i => listed.getD i false) μ w → Down ops (fun i => listed.getD i false) →
      (List.range ops.size).countP (fun i => !listed.getD i false) = fuel → wpAny P .any ops Q fuel listed a w := by
  obtain ⟨_, hstat⟩ := statOk_spec hst
  have hget : ∀ (listed : Array Bool) (i : Nat), listed.size = ops.size → i < ops.size → listed.getD i true = listed.getD i false := fun listed i h1 h2 => by
    simp [Array.getD_eq_getD_getElem?, Array.getElem?_eq_getElem (show i < listed.size by omega)]
  -- if something is left, something may come up
  have hex : ∀ (listed : Array Bool), listed.size = ops.size → ∀ m, m ≤ ops.size → (∀ i, i < m → listed.getD i false = true) → Region.ready .any ops listed = [] → m < ops.size → listed.getD m false = true := fun listed hsz m hm hall hr hlt => by
    cases hx : listed.getD m false with
    | true => rfl
    | false =>
      exfalso
      have hok : ops[m]? = some (ops[m]'hlt) := Array.getElem?_eq_getElem _
      have : m ∈ Region.ready .any ops listed := mem_ready.2 ⟨by rw [hget listed m hsz hlt]; exact hx, _, hok, fun e he hbd => hall e.on ((hstat m _ hok).1 e (Array.mem_toList_iff.2 he) (bindsG_iff.1 hbd))⟩
      rw [hr] at this; cases this
  have hdone : ∀ (listed : Array Bool), listed.size = ops.size → Region.ready .any ops listed = [] → ∀ i, i < ops.size → listed.getD i false = true := fun listed hsz hr i => by
    induction i using Nat.strongRecOn with
    | _ i ih =>
      intro hi
      exact hex listed hsz i (by omega) (fun k hk => ih k hk (by omega)) hr hi
  intro fuel
  induction fuel with
  | zero =>
    intro listed μ a w hsz I J hd hcount
    have hall : ∀ i, i < ops.size → listed.getD i false = true := fun i hi => by
      have := List.countP_eq_zero.1 hcount i (by simpa using hi)
      simpa using this
    refine ⟨?_, hq _ μ a w I J hall⟩
    cases hr : Region.ready .any ops listed with
    | nil => rfl
    | cons x xs =>
      have hx : x ∈ Region.ready .any ops listed := by rw [hr]; simp
      obtain ⟨h1, o, ho, _⟩ := mem_ready.1 hx
      have hlt := (Array.getElem?_eq_some_iff.1 ho).1
      rw [hget listed x hsz hlt, hall x hlt] at h1
      cases h1
  | succ fuel ih =>
    intro listed μ a w hsz I J hd hcount
    refine ⟨fun hr => hq _ μ a w I J (hdone listed hsz hr), fun j hj => ?_⟩
    obtain ⟨h1, oj, hoj, hpj⟩ := mem_ready.1 hj
    have hlt := (Array.getElem?_eq_some_iff.1 hoj).1
    rw [hget listed j hsz hlt] at h1
    have hp : ∀ e ∈ oj.after.toList, bindsG e.ground = true → listed.getD e.on false = true := fun e he hbd => hpj e (Array.mem_toList_iff.1 he) (bindsG_iff.2 hbd)
    have hset : ∀ i, (listed.setIfInBounds j true).getD i false = if i = j then true else listed.getD i false := fun i => by
      by_cases e : i = j
      · subst e
        simp [hsz, hlt]
      · rw [getD_set_ne false (Ne.symm e), if_neg e]
    refine wpOp_mono (fun a' w' h => ?_) (region_step (Q := Q) t hlit hb hst I J hd hoj hp h1)
    obtain ⟨μ', I', J'⟩ := h
    have hfun : (fun i => if i = j then true else listed.getD i false) = fun i => (listed.setIfInBounds j true).getD i false := funext fun i => (hset i).symm
    rw [hfun] at I' J'
    refine ih _ μ' a' w' (by simpa using hsz) I' J' (fun i o hoi hx e he hbd => ?_) ?_
    · have hx' : (listed.setIfInBounds j true).getD i false = true := hx
      show (listed.setIfInBounds j true).getD e.on false = true
      rw [hset] at hx' ⊢
      by_cases e1 : e.on = j
      · rw [if_pos e1]
      · rw [if_neg e1]
        by_cases e2 : i = j
        · subst e2
          rw [hoj] at hoi; cases hoi
          exact hp e he hbd
        · rw [if_neg e2] at hx'
          exact hd i o hoi hx' e he hbd
    · have hcnt : ∀ n, j < n → (List.range n).countP (fun i => !listed.getD i false) = (List.range n).countP (fun i => !(listed.setIfInBounds j true).getD i false) + 1 := by
        intro n
        induction n with
        | zero => intro h; omega
        | succ n ihn =>
          intro hjn
          rw [List.range_succ, List.countP_append, List.countP_append]
          rcases Nat.lt_or_ge j n with h2 | h2
          · rw [ihn h2]
            have : n ≠ j := by omega
            simp only [List.countP_singleton, hset, if_neg this]
            omega
          · have : n = j := by omega
            subst this
            have hpre : (List.range n).countP (fun i => !listed.getD i false) = (List.range n).countP (fun i => !(listed.setIfInBounds n true).getD i false) := by
              refine List.countP_congr fun i hi => ?_
              have : i ≠ n := by have := List.mem_range.1 hi; omega
              rw [hset, if_neg this]
            rw [hpre]
            simp only [List.countP_singleton, hset, h1, if_true]
            simp
      have := hcnt ops.size hlt
      omega
end main
theorem evDrawn_text {ops : Array Oper} {st st' : St} {rs : List Rec} {ns : List Note} (h1 : Tr P ops ops.toList 0 st [] [] st' rs ns) (h2 : statOk ops = true) (h3 : dynOk ops.toList rs = true) (hb : Bd st.H) : ∃ T E L tc, T 0 = st ∧ T ops.size = st' ∧ L ops.size = ns ∧ LG (T 0).H (T ops.size).H ∧ Text P ops T E L tc := by
  obtain ⟨_, T, E, L, t0, tn, l0, ln, ts⟩ := h1
  simp only [Nat.zero_add] at t0 tn ts l0 ln
  have ln' : L ops.size = ns := by simpa using ln
  have tn' : T ops.size = st' := by simpa using tn
  have stp : ∀ (k : Nat) (o : Oper), ops[k]? = some o → StepE P ops o k (L k) (T k) (E k) (T (k + 1)) := fun k o hk => (ts k o (by simpa using hk)).1
  have lnk : ∀ k, k < ops.size → L (k + 1) = notes (E k) (L k) := fun k hk => (ts k (ops[k]'hk) (by simp [hk])).2.1
  -- the text's facts, without what is touched in common
  have nxb : ∀ k, k ≤ ops.size → Bd (T k).H ∧ LG (T 0).H (T k).H ∧ ∀ i, i ≤ k → (T i).H.next ≤ (T k).H.next := by
    intro k
    induction k with
    | zero =>
      intro _
      exact ⟨by rw [t0]; exact hb, LG.refl _, fun i hi => (by
        have : i = 0 := by omega
        rw [this]; exact Nat.le_refl _)⟩
    | succ k ih =>
      intro hk
      obtain ⟨b1, b2, b3⟩ := ih (by omega)
      have hok : ops[k]? = some (ops[k]'(by omega)) := Array.getElem?_eq_getElem _
      obtain ⟨_, _, _, _, s5, s6⟩ := stp k _ hok
      have key : LG (T k).H (T (k + 1)).H := by
        cases hw : (E k).want with
        | true =>
          obtain ⟨q1, q2, _⟩ := s5 hw
          rw [q2]
          exact merge_LG q1 b1
        | false => obtain ⟨_, ⟨pc, q2⟩, _⟩ := s6 hw; rw [q2]; exact LG.wpc _ _
      obtain ⟨c1, _, _, _, c3⟩ := key b1
      refine ⟨c1, b2.trans key, fun i hi => ?_⟩
      rcases Nat.lt_or_ge i (k + 1) with h4 | h4
      · exact Nat.le_trans (b3 i (by omega)) c3
      · have : i = k + 1 := by omega
        rw [this]; exact Nat.le_refl _
  have nxm : ∀ k, k ≤ ops.size → ∀ i, i ≤ k → (T i).H.next ≤ (T k).H.next := fun k hk => (nxb k hk).2.2
  have hnext : ∀ k, k < ops.size → (E k).want = true → (T (k + 1)).H.next = (E k).R.next := fun k hk hw => by
    have hok : ops[k]? = some (ops[k]'hk) := Array.getElem?_eq_getElem _
    rw [((stp k _ hok).2.2.2.2.1 hw).2.1, merge_next]
  refine ⟨T, E, L, fun k id => (E k).want = true ∧ tchd (T k).H.next (E k).F (E k).R id, t0, tn', ln', (nxb ops.size (Nat.le_refl _)).2.1, stp, l0, lnk, fun _ _ => Iff.rfl, ?_⟩
  intro i j id hi hj hij hti hor
  have hwantF : ∀ k, k < ops.size → (E k).F ≠ [] → (E k).want = true := fun k hk hF => by
    have hok : ops[k]? = some (ops[k]'hk) := Array.getElem?_eq_getElem _
    cases hw : (E k).want with
    | true => rfl
    | false => exact absurd ((stp k _ hok).2.2.2.2.2 hw).2.2.1 hF
  have hrec : ∀ k, k < ops.size → (E k).want = true → (E k).F ≠ [] ∨ (T k).H.next < (E k).R.next → (⟨k, (E k).F, (E k).R.log, (T k).H.next, (E k).R.next⟩ : Rec) ∈ rs := fun k hk hw hf => by
    have hok : ops.toList[k]? = some (ops[k]'hk) := by simp [hk]
    exact (ts k _ hok).2.2 hw hf
  have use : ∀ p q, p < ops.size → q < ops.size → p ≠ q → ∀ (hp : (⟨p, (E p).F, (E p).R.log, (T p).H.next, (E p).R.next⟩ : Rec) ∈ rs) (hq : (⟨q, (E q).F, (E q).R.log, (T q).H.next, (E q).R.next⟩ : Rec) ∈ rs), id ∈ (E q).F →
      (id ∈ (E p).R.log ∨ ((T p).H.next ≤ id ∧ id < (E p).R.next)) → ordB ops.toList p q = true := by
    intro p q hp' hq' hpq hp hq hF hor
    refine dynOk_spec h3 hp hq ?_ hpq
    unfold clash
    simp only [Bool.or_eq_true, List.any_eq_true]
    rcases hor with h5 | h5
    · exact .inl ⟨id, h5, by simpa using hF⟩
    · exact .inr ⟨id, hF, by simp [h5.1, h5.2]⟩
  obtain ⟨hwi, hti⟩ := hti
  have hi_rec : (⟨i, (E i).F, (E i).R.log, (T i).H.next, (E i).R.next⟩ : Rec) ∈ rs := by
    refine hrec i hi hwi ?_
    rcases hti with ⟨_, h5, _⟩ | ⟨h5, h6⟩
    · exact .inl (List.ne_nil_of_mem h5)
    · exact .inr (by omega)
  have hi_or : id ∈ (E i).R.log ∨ ((T i).H.next ≤ id ∧ id < (E i).R.next) := by
    rcases hti with ⟨h5, _, _⟩ | h5
    · exact .inl h5
    · exact .inr h5
  have fromF : id ∈ (E j).F → ordB ops.toList i j = true := fun hF => by
    have hne : (E j).F ≠ [] := List.ne_nil_of_mem hF
    exact use i j hi hj hij hi_rec (hrec j hj (hwantF j hj hne) (.inl hne)) hF hi_or
  rcases hor with hF | ⟨hwj, htj⟩
  · exact fromF hF
  · rcases htj with ⟨_, hF, _⟩ | ⟨h5, h6⟩
    · exact fromF hF
    · rcases hti with ⟨h7, h8, h9⟩ | ⟨h7, h8⟩
      · rw [ordB_symm _ hij]
        exact use j i hj hi (Ne.symm hij) (hrec j hj hwj (.inr (by omega))) hi_rec h8 (.inr ⟨h5, h6⟩)
      · exfalso
        rw [← hnext i hi hwi] at h8
        rw [← hnext j hj hwj] at h6
        rcases Nat.lt_or_gt_of_ne hij with h10 | h10
        · have := nxm j (by omega) (i + 1) h10; omega
        · have := nxm i (by omega) (j + 1) h10; omega
theorem look_litObjs {all : List Note} {id : Nat} {o : AObj} : ∀ {l : List Note}, look (litObjs all l) id = some o → (∃ i, Note.mk i id ∈ l) ∧ o = .map (litAll id all)
  | [], h => by cases h
  | .mk i j :: l, h => by
    simp only [litObjs] at h
    rw [show look ((j, AObj.map (litAll j all)) :: litObjs all l) id = @Bool.rec (fun _ => Option AObj) (look (litObjs all l) id) (some (AObj.map (litAll j all))) (Nat.beq j id) from rfl] at h
    cases hb : Nat.beq j id with
    | true =>
      have := Nat.eq_of_beq_eq_true hb
      subst this
      rw [hb] at h; cases h
      exact ⟨⟨i, List.mem_cons_self⟩, rfl⟩
    | false =>
      rw [hb] at h
      obtain ⟨⟨i', h1⟩, h2⟩ := look_litObjs (l := l) h
      exact ⟨⟨i', List.mem_cons_of_mem _ h1⟩, h2⟩
  | .ins .. :: l, h => by
    simp only [litObjs] at h
    obtain ⟨⟨i', h1⟩, h2⟩ := look_litObjs (l := l) h
    exact ⟨⟨i', List.mem_cons_of_mem _ h1⟩, h2⟩
theorem putLits_get (ns : List Note) (st : St) (id : Nat) : (putLits ns st).H.get id = match look (litObjs ns ns) id with
    | some o => some o
    | none => st.H.get id := by
  unfold putLits
  split
  · rfl
  · exact look_append _ _ _
theorem putLits_same (ns : List Note) (st : St) : (putLits ns st).nt = st.nt ∧ (putLits ns st).fr = st.fr ∧ (putLits ns st).df = st.df ∧ (putLits ns st).H.next = st.H.next ∧ (putLits ns st).H.log = st.H.log ∧ (putLits ns st).H.pc = st.H.pc := by
  unfold putLits; split <;> exact ⟨rfl, rfl, rfl, rfl, rfl, rfl⟩
theorem Text.lits {ops : Array Oper} {T : Nat → St} {E : Nat → Ev} {L : Nat → List Note} {tc : Nat → Nat → Prop} (t : Text P ops T E L tc) (hb : Bd (T 0).H) {id : Nat} {o : AObj} (h : look (litObjs (L ops.size) (L ops.size)) id = some o) :
    ∃ m, m < ops.size ∧ mkE (E m) ∧ id = (T m).H.next ∧ (T 0).H.next ≤ id ∧ id < (T ops.size).H.next ∧ o = .map (litAll id (L ops.size)) := by
  obtain ⟨⟨i, h1⟩, h2⟩ := look_litObjs h
  obtain ⟨m, h3, h4⟩ := (t.mem _ _ (Nat.le_refl _)).1 h1
  obtain ⟨h5, h6, h7⟩ := t.mkS h3 h4
  refine ⟨m, h3, ⟨_, _, h4⟩, h6, ?_, ?_, h2⟩
  · have := (t.facts hb m (by omega)).2.2.2.2.2 0 (Nat.zero_le _); omega
  · have := (t.facts hb ops.size (Nat.le_refl _)).2.2.2.2.2 (m + 1) h3; omega
theorem evDrawn_run (hn : NoCount P) (id : Nat) (ops : Array Oper) (st st' : St) {rs : List Rec} {ns : List Note} (h : Tr P ops ops.toList 0 st [] [] st' rs ns) (hlit : ns.all (litOk P ns) = true) (hst : statOk ops = true) (h3 : dynOk ops.toList rs = true) {Q : Exit → Act → World → Prop} (μ : Mu) (a : Act) (w : World) (s : SRel P μ st a w)
    (hq : ∀ μ' a' w', Evo μ st.H.get st.H.next w μ' (putLits ns st').H.get (putLits ns st').H.next w' → SRel P μ' (putLits ns st') a' w' → Q .normal a' w') : (Code.region id ops true).wp P Q a w := by
  have hbd : Bd st.H := fun i o hi => s.rep.lt s.dom hi
  obtain ⟨T, E, L, tc, t0, tn, ln, _, t⟩ := evDrawn_text h hst h3 hbd
  subst t0; subst ln
  refine wp_region_any hn.mixed ?_
  have hlt : ∀ i l, μ i = some l → i < (T 0).H.next := fun i l hl => by
    rcases Nat.lt_or_ge i (T 0).H.next with h1 | h1
    · exact h1
    · rw [s.dom i h1] at hl; cases hl
  have hfacts := t.facts hbd
  have hcut : ∀ k, k ≤ ops.size → Ext μ (cutMu μ (T k).H.next) := fun k hk i l hl => by
    have h1 := hlt i l hl
    have h2 := (hfacts k hk).2.2.2.2.2 0 (Nat.zero_le _)
    unfold cutMu; rw [if_pos (by omega)]; exact hl
  have hs0 : ∀ k i, sX (T 0).H.get tc (fun k id => (T (k + 1)).H.get id) (fun _ => false) k i = (T 0).H.get i := fun k i => by
    induction k with
    | zero => rfl
    | succ k ih => simp only [sX]; rw [if_neg (by simp)]; exact ih
  have hf0 : ∀ k i, fX (lk (T 0).fr) (fun k => (ops[k]?).bind (·.dst)) (fun k => (E k).v) (fun _ => false) k i = lk (T 0).fr i := fun k i => by
    induction k with
    | zero => rfl
    | succ k ih => simp only [fX]; rw [if_neg (by simp)]; exact ih
  have I0 : InvT P ops T E tc μ w (fun _ => false) μ a { w with drawn := w.drawn + 1 } := by
    have r := s.rep.draw (w' := { w with drawn := w.drawn + 1 }) rfl
    refine ⟨fun i hi => (by cases hi), s.nt, s.df, fun k hk t' v _ hv => ?_, fun k hk i o _ ho => ?_, fun i j oi oj li lj h1 h2 => ?_, fun i l hl => .inl (hlt i l hl), Ext.refl μ, fun i l h1 h2 => (by rw [h2] at h1; cases h1), fun _ _ _ => rfl, fun b m _ => ?_, fun i o ho => ?_, Nat.le_refl _, rfl, rfl, rfl⟩
    · rw [hf0] at hv
      obtain ⟨c, h1, h2⟩ := s.fr t' v hv
      exact ⟨c, h1, h2.ext (hcut k hk)⟩
    · rw [hs0] at ho
      exact (r.obj i o ho).keep (hcut k hk) fun _ _ => rfl
    · rw [hs0] at h1 h2
      exact r.inj i j oi oj li lj h1 h2
    · obtain ⟨j, o, l, m1, m2, m3, m4⟩ := m
      rw [hs0] at m1
      exact ⟨j, o, l, m1, m2, m3, m4⟩
    · rw [hs0] at ho
      exact .inl ⟨o, ho⟩
  have hrep0 : (fun i => (Array.replicate ops.size false).getD i false) = fun _ => false := funext fun i => by
    simp [Array.getD_eq_getD_getElem?, Array.getElem?_replicate]
    split <;> rfl
  have J0 : LitT ops T E tc w (fun _ => false) μ { w with drawn := w.drawn + 1 } := ⟨fun m _ _ => ⟨fun _ _ _ => rfl, fun h => by cases h⟩, fun m m' l l' _ _ _ _ h => by cases h⟩
  refine region_all (μ0 := μ) (w0 := w) t hlit hbd hst (fun X μ' a' w' I J hall => ?_) ops.size _ μ a _ (by simp) (by rw [hrep0]; exact I0) (by rw [hrep0]; exact J0) (fun i o _ hx => ?_) ?_
  · -- the end
    obtain ⟨e1, e2, e3, e4, e5, e6⟩ := hfacts ops.size (Nat.le_refl _)
    have hsn : ∀ i, sX (T 0).H.get tc (fun k id => (T (k + 1)).H.get id) X ops.size i = st'.H.get i := fun i => by
      rw [← tn, e2 i]
      exact sX_agree i ops.size fun k hk _ => hall k hk
    have hfn : ∀ i, fX (lk (T 0).fr) (fun k => (ops[k]?).bind (·.dst)) (fun k => (E k).v) X ops.size i = lk st'.fr i := fun i => by
      rw [← tn, e3 i]
      exact fX_agree i ops.size fun k hk _ => hall k hk
    have hno : ∀ i, ops.size ≤ i → X i = true → False := fun i hi hx => by have := I.inn i hx; omega
    have hmono : ∀ i k, i ≤ k → k ≤ ops.size → (T i).H.next ≤ (T k).H.next := fun i k h1 h2 => (hfacts k h2).2.2.2.2.2 i h1
    have hrep : Rep μ' st'.H.get w' := by
      refine ⟨fun i o ho => ?_, fun i j oi oj li lj h1 h2 hij ho h3 h4 => ?_⟩
      · rw [← hsn i] at ho
        exact (I.ob ops.size (Nat.le_refl _) i o (fun k hk hx => (hno k hk hx).elim) ho).keep (cutMu_ext _ _) fun _ _ => rfl
      · rw [← hsn i] at h1
        rw [← hsn j] at h2
        exact I.inj i j oi oj li lj h1 h2 hij ho h3 h4
    have hdom : Dom μ' st'.H.next := fun i hi => by
      cases hm : μ' i with
      | none => rfl
      | some l =>
        exfalso
        rw [← tn] at hi
        rcases I.dom i l hm with h1 | ⟨k, h1, _, _, h4⟩
        · have := hmono 0 ops.size (Nat.zero_le _) (Nat.le_refl _); omega
        · have := hmono (k + 1) ops.size h1 (Nat.le_refl _); omega
    have hmine : ∀ b, Mine μ' st'.H.get b → Mine μ' (sX (T 0).H.get tc (fun k id => (T (k + 1)).H.get id) X ops.size) b := fun b m => by
      obtain ⟨j, o, l, m1, m2, m3, m4⟩ := m
      exact ⟨j, o, l, by rw [hsn j]; exact m1, m2, m3, m4⟩
    obtain ⟨g1, g2, g3, g4, _, _⟩ := putLits_same (L ops.size) st'
    -- the literals
    have hlits : ∀ id o, look (litObjs (L ops.size) (L ops.size)) id = some o → ∃ m l, m < ops.size ∧ mkE (E m) ∧ id = (T m).H.next ∧ (T 0).H.next ≤ id ∧ μ' id = some l ∧ w.heap.size ≤ l.b ∧ RepO μ' id w' o ∧ (∀ q oq lq, st'.H.get q = some oq → μ' q = some lq → lq.b ≠ l.b) := fun id o ho => by
      obtain ⟨m, h1, h2, h3, h4, _, h6⟩ := t.lits hbd ho
      obtain ⟨l, ents, clock, es, r1, r2, r3, r4, r5, r6⟩ := (J.one m h1 h2).2 (hall m h1)
      subst h3; subst h6
      refine ⟨m, l, h1, h2, rfl, h4, r1, r2, ⟨l, ents, clock, es, r1, r3, r4.trans ?_, r5⟩, fun q oq lq hq => r6 q oq lq (by rw [hsn q]; exact hq)⟩
      rw [t.all _ ops.size (Nat.le_refl _) fun i hi => hall i hi]
      exact List.reverse_perm _
    have hget : ∀ id o, (putLits (L ops.size) st').H.get id = some o → look (litObjs (L ops.size) (L ops.size)) id = some o ∨ st'.H.get id = some o := fun id o h => by
      rw [putLits_get] at h
      split at h
      · rename_i h1; rw [h1]; exact .inl h
      · exact .inr h
    have hrep' : Rep μ' (putLits (L ops.size) st').H.get w' := by
      refine ⟨fun id o ho => ?_, fun i j oi oj li lj h1 h2 hij ho h3 h4 => ?_⟩
      · rcases hget id o ho with h | h
        · obtain ⟨_, _, _, _, _, _, _, _, r, _⟩ := hlits id o h; exact r
        · exact hrep.obj id o h
      · rcases hget i oi h1 with k1 | k1
        · obtain ⟨m, l, p1, p2, p3, p4, p5, p6, p7, p8⟩ := hlits i oi k1
          rw [h3] at p5; cases p5
          rcases hget j oj h2 with k2 | k2
          · obtain ⟨m', l', q1, q2, q3, q4, q5, q6, q7, q8⟩ := hlits j oj k2
            rw [h4] at q5; cases q5
            refine J.two m m' li lj p1 q1 p2 q2 (hall m p1) (hall m' q1) (fun e => ?_) (p3 ▸ h3) (q3 ▸ h4)
            subst e; exact hij (p3.trans q3.symm)
          · exact (p8 j oj lj k2 h4).symm
        · rcases hget j oj h2 with k2 | k2
          · obtain ⟨m', l', q1, q2, q3, q4, q5, q6, q7, q8⟩ := hlits j oj k2
            rw [h4] at q5; cases q5
            exact q8 i oi li k1 h3
          · exact hrep.inj i j oi oj li lj k1 k2 hij ho h3 h4
    refine hq μ' a' w' ⟨I.ext, hrep', ?_, by rw [g4]; exact hdom, I.old, I.keep, fun b m hb => ?_, fun i o ho => ?_, I.size, I.os, I.tape, I.output⟩ ⟨fun t' v hv => ?_, ?_, ?_, hrep', by rw [g4]; exact hdom⟩
    · rw [g4, ← tn]; exact hmono 0 ops.size (Nat.zero_le _) (Nat.le_refl _)
    · obtain ⟨q, o, l, m1, m2, m3, m4⟩ := m
      rcases hget q o m1 with k1 | k1
      · obtain ⟨m, l', p1, p2, p3, p4, p5, p6, p7, p8⟩ := hlits q o k1
        rw [m3] at p5; cases p5
        omega
      · exact I.mine b (hmine b ⟨q, o, l, k1, m2, m3, m4⟩) hb
    · rcases hget i o ho with k1 | k1
      · obtain ⟨m, l', p1, p2, p3, p4, _⟩ := hlits i o k1
        exact .inr p4
      · exact I.live i o (by rw [hsn i]; exact k1)
    · rw [g2, ← hfn t'] at hv
      obtain ⟨c, h1, h2⟩ := I.fr ops.size (Nat.le_refl _) t' v (fun k hk hx => (hno k hk hx).elim) hv
      exact ⟨c, h1, h2.ext (cutMu_ext _ _)⟩
    · rw [g1, I.nt, ← tn, e4]
    · have := I.df
      rw [g3, ← tn, e5]
      exact this.ext I.ext
  · have h1 : (Array.replicate ops.size false).getD i false = false := congrFun hrep0 i
    have h2 : (Array.replicate ops.size false).getD i false = true := hx
    rw [h1] at h2; cases h2
  · have : (fun i => !(Array.replicate ops.size false).getD i false) = fun _ => true := funext fun i => by
      have h1 : (Array.replicate ops.size false).getD i false = false := congrFun hrep0 i
      rw [h1]; rfl
    rw [this, List.countP_eq_length.2 (fun _ _ => rfl)]
    simp
theorem evDrawn_sel (hn : NoCount P) {α : Type} {cf : CallF α} (hc : CfOK P cf) (id : Nat) (ops : Array Oper) (st : St) (K : St → Tree α) (r : α) (hp : PC st.H) (h : (evDrawn P cf ops st K).sel = some r) :
    ∃ st', (K st').sel = some r ∧ PC st'.H ∧ LG st.H st'.H ∧ ∀ {Q : Exit → Act → World → Prop} {μ : Mu} {a : Act} {w : World}, SRel P μ st a w →
      (∀ μ' a' w', Evo μ st.H.get st.H.next w μ' st'.H.get st'.H.next w' → SRel P μ' st' a' w' → Q .normal a' w') → (Code.region id ops true).wp P Q a w := by
  unfold evDrawn at h
  obtain ⟨st', rs, ns, h1, h2, h3⟩ := evDraw_sel hn hc ops.toList 0 st [] [] _ r hp h
  cases hb : (statOk ops && dynOk ops.toList rs && ns.all (litOk P ns)) with
  | false => rw [hb] at h1; simp [Tree.sel] at h1
  | true =>
    rw [hb] at h1
    obtain ⟨hsd, hl⟩ := Bool.and_eq_true_iff.1 hb
    obtain ⟨hs, hd⟩ := Bool.and_eq_true_iff.1 hsd
    obtain ⟨g1, g2, g3, g4, g5, g6⟩ := putLits_same ns st'
    refine ⟨putLits ns st', h1, by unfold PC; rw [g6]; exact h2, fun b => ?_, fun {Q μ a w} s hq => evDrawn_run hn id ops st st' h3 hl hs hd μ a w s hq⟩
    obtain ⟨T, E, L, tc, t0, tn, ln, lg, t⟩ := evDrawn_text h3 hs hd b
    rw [t0, tn] at lg
    obtain ⟨b', l, l1, l2, l3⟩ := lg b
    have hb0 : Bd (T 0).H := by rw [t0]; exact b
    refine ⟨fun id o ho => ?_, l, by rw [g5]; exact l1, fun id h4 h5 => ?_, by rw [g4]; exact l3⟩
    · rw [g4]
      rw [putLits_get] at ho
      split at ho
      · rename_i h6
        obtain ⟨_, _, _, _, _, h7, _⟩ := t.lits hb0 (ln ▸ h6)
        rw [tn] at h7; exact h7
      · exact b' id o ho
    · rw [putLits_get]
      split
      · rename_i h6
        obtain ⟨_, _, _, _, h7, _, _⟩ := t.lits hb0 (ln ▸ h6)
        rw [t0] at h7; omega
      · exact l2 id h4 h5
end
end Go.Proofs.Ytamibbjpapkfeaa.Ab
