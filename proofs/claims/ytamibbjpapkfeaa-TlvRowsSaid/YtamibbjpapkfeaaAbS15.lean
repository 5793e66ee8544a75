import Derived.Test.YtamibbjpapkfeaaAbS22
namespace Go.Proofs.Ytamibbjpapkfeaa.Ab
set_option linter.unusedSimpArgs false
set_option linter.unusedVariables false
open Go
set_option linter.unusedSectionVars false
variable [Rho]
section
variable {P : Program}

def toExit : AX → Exit
  | .normal => .normal
  | .ret => .ret
  | .exit id => .exit id
theorem lk_dedup : ∀ (l : FR) (seen : List Nat) (t : Nat) (v : AV), lk (dedup l seen) t = some v → lk l t = some v ∧ t ∉ seen
  | [], _, _, _, h => by simp [dedup, lk_nil] at h
  | p :: l, seen, t, v, h => by
    unfold dedup at h
    obtain ⟨d, u⟩ := p
    rw [lk_cons]
    split at h
    · rename_i hs
      obtain ⟨h1, h2⟩ := lk_dedup l seen t v h
      have : t ≠ d := fun e => h2 (by subst e; simpa using hs)
      exact ⟨by rw [if_neg this]; exact h1, h2⟩
    · rename_i hs
      rw [lk_cons] at h
      split at h
      · rename_i e
        exact ⟨by rw [if_pos e]; exact h, by subst e; simpa using hs⟩
      · rename_i e
        obtain ⟨h1, h2⟩ := lk_dedup l _ t v h
        simp at h2
        exact ⟨by rw [if_neg e]; exact h1, h2.2⟩
theorem SRel.trim {μ : Mu} {st : St} {a : Act} {w : World} (s : SRel P μ st a w) : SRel P μ (trim st) a w := by
  unfold Ab.trim
  split
  · exact ⟨fun t v hv => s.fr t v (lk_dedup _ _ _ _ hv).1, s.nt, s.df, s.rep, s.dom⟩
  · exact s
theorem trim_H (st : St) : (trim st).H = st.H := by
  unfold Ab.trim; split <;> rfl
/-- What a code does: how it is left, and the state. -/
def CodeS (P : Program) (c : Code) (st : St) (x : AX) (st' : St) : Prop :=
  LG st.H st'.H ∧ ∀ {Q : Exit → Act → World → Prop} {μ : Mu} {a : Act} {w : World}, SRel P μ st a w →
    (∀ μ' a' w', Evo μ st.H.get st.H.next w μ' st'.H.get st'.H.next w' → SRel P μ' st' a' w' → Q (toExit x) a' w') → c.wp P Q a w
/-- A loop's rounds end so. -/
def LoopE (P : Program) (c : Code) (Q : Exit → Act → World → Prop) (a : Act) (w : World) : Prop :=
  ∀ b k cs, ∃ e a' w', Q e a' w' ∧ Arrives P (lone (b.at a (.code c :: .inLoop c :: k)) cs w) b k cs e a' w'
theorem LoopE.wp {c : Code} {Q : Exit → Act → World → Prop} {a : Act} {w : World} (h : LoopE P c Q a w) : (Code.loop c).wp P Q a w := fun b k cs => by
  obtain ⟨e, a', w', hq, harr⟩ := h b k cs
  exact ⟨e, a', w', hq, .of_steps (.one step_loop) harr⟩
theorem LoopE.step {c : Code} {Q : Exit → Act → World → Prop} {a : Act} {w : World} (h : c.wp P (Exit.then (LoopE P c Q) Q) a w) : LoopE P c Q a w := fun b k cs => by
  obtain ⟨e, a1, w1, hq, harr⟩ := h b (.inLoop c :: k) cs
  cases e with
  | normal =>
    obtain ⟨e2, a2, w2, hq2, harr2⟩ := hq b k cs
    exact ⟨e2, a2, w2, hq2, .of_steps (Steps.trans harr (.one step_inLoop)) harr2⟩
  | exit id => exact ⟨_, a1, w1, hq, .pass (x := .inLoop c) rfl (fun _ _ => .inl (by simp)) harr⟩
  | goto l => exact ⟨_, a1, w1, hq, .pass (x := .inLoop c) rfl (fun _ _ => .inl (by simp)) harr⟩
  | ret => exact ⟨_, a1, w1, hq, .pass (x := .inLoop c) rfl (fun _ _ => .inl (by simp)) harr⟩
  | panic ch => exact ⟨_, a1, w1, hq, .pass (x := .inLoop c) rfl (fun _ _ => .inl (by simp)) harr⟩
  | outgrown => exact ⟨_, a1, w1, hq, .pass (x := .inLoop c) rfl (fun _ _ => .inl (by simp)) harr⟩
theorem LoopE.mono {c : Code} {Q Q' : Exit → Act → World → Prop} {a : Act} {w : World} (h : LoopE P c Q a w) (hq : ∀ e a w, Q e a w → Q' e a w) : LoopE P c Q' a w := fun b k cs => by
  obtain ⟨e, a', w', h1, h2⟩ := h b k cs
  exact ⟨e, a', w', hq _ _ _ h1, h2⟩
theorem LoopE.rounds {c : Code} {Q : Exit → Act → World → Prop} : ∀ (n : Nat) {a : Act} {w : World}, Code.rounds P c Q n a w → LoopE P c Q a w
  | 0, _, _, h => h.elim
  | n + 1, a, w, h => by
    rw [rounds_succ] at h
    refine LoopE.step (wp_mono h fun e a' w' hh => ?_)
    cases e with
    | normal => exact LoopE.rounds n hh
    | _ => exact hh
/-- What a loop does: how it is left, and the state. -/
def LoopS (P : Program) (body : Code) (st : St) (x : AX) (st' : St) : Prop :=
  LG st.H st'.H ∧ ∀ {Q : Exit → Act → World → Prop} {μ : Mu} {a : Act} {w : World}, SRel P μ st a w →
    (∀ μ' a' w', Evo μ st.H.get st.H.next w μ' st'.H.get st'.H.next w' → SRel P μ' st' a' w' → Q (toExit x) a' w') → LoopE P body Q a w
/-- The loops' contracts hold. -/
def LpOK (P : Program) (lf : LoopF) (c : Code) : Prop := ∀ body ∈ loopsOf c, ∀ g, lf (loopKey body) = some g → ∀ st o x st', PC st.H → g st = some (o, x, st') → o.den.asB = true → LoopS P body st x st'
theorem SRel.wpc {μ : Mu} {st : St} {a : Act} {w : World} (s : SRel P μ st a w) (pc : List (Tm × Bool)) : SRel P μ ⟨st.nt, st.fr, st.H.wpc pc, st.df⟩ a w := ⟨s.fr, s.nt, s.df, s.rep, s.dom⟩
theorem evCode_sel (hn : NoCount P) {α : Type} {cf : CallF α} (hc : CfOK P cf) {lf : LoopF} : ∀ (n : Nat) (c : Code), LpOK P lf c → ∀ (st : St) (K : AX → St → Tree α) (r : α), PC st.H → (evCode P cf lf n c st K).sel = some r →
    ∃ x st', (K x st').sel = some r ∧ PC st'.H ∧ LG st.H st'.H ∧ ∀ {Q : Exit → Act → World → Prop} {μ : Mu} {a : Act} {w : World}, SRel P μ st a w →
      (∀ μ' a' w', Evo μ st.H.get st.H.next w μ' st'.H.get st'.H.next w' → SRel P μ' st' a' w' → Q (toExit x) a' w') → c.wp P Q a w ∧ (∀ body, c = .loop body → LoopE P body Q a w)
  | 0, c, hl, st, K, r, hp, h => by simp [evCode, Tree.sel] at h
  | n + 1, c, hl, st, K, r, hp, h => by
    unfold evCode at h
    split at h
    · -- skip
      exact ⟨_, _, h, hp, LG.refl _, fun {Q μ a w} s hq => ⟨wp_skip (hq μ a w (Evo.refl s.rep s.dom) s), fun _ e => by cases e⟩⟩
    · -- region
      rename_i id ops draw
      cases draw with
      | true =>
        obtain ⟨st', h1, h2, h3, h4⟩ := evDrawn_sel hn hc id ops st _ r hp h
        exact ⟨_, st', h1, h2, h3, fun s hq => ⟨h4 s hq, fun _ e => by cases e⟩⟩
      | false =>
        obtain ⟨st', h1, h2, h3, h4⟩ := evOps_sel hn hc ops ops.toList 0 (fun i => by simp) st _ r hp h
        refine ⟨_, st', h1, h2, h3, fun {Q μ a w} s hq => ⟨wp_region ?_, fun _ e => by cases e⟩⟩
        have := h4 (Q := Q) s hq
        rw [List.range_eq_range']
        simpa using this
    · -- seq
      rename_i p q
      have hlp : LpOK P lf p := fun b hb => hl b (by simp [loopsOf, hb])
      have hlq : LpOK P lf q := fun b hb => hl b (by simp [loopsOf, hb])
      obtain ⟨x, st1, h1, h2, h3, h4⟩ := evCode_sel hn hc n p hlp st _ r hp h
      cases x with
      | normal =>
        obtain ⟨y, st2, k1, k2, k3, k4⟩ := evCode_sel hn hc n q hlq st1 K r h2 h1
        refine ⟨y, st2, k1, k2, h3.trans k3, fun {Q μ a w} s hq => ⟨wp_seq (h4 s fun μ1 a1 w1 ev1 s1 => ?_).1, fun _ e => by cases e⟩⟩
        exact (k4 (Q := Q) s1 fun μ2 a2 w2 ev2 s2 => hq μ2 a2 w2 (ev1.trans ev2) s2).1
      | ret =>
        refine ⟨_, st1, h1, h2, h3, fun {Q μ a w} s hq => ⟨wp_seq (h4 s fun μ1 a1 w1 ev1 s1 => ?_).1, fun _ e => by cases e⟩⟩
        exact hq μ1 a1 w1 ev1 s1
      | exit id =>
        refine ⟨_, st1, h1, h2, h3, fun {Q μ a w} s hq => ⟨wp_seq (h4 s fun μ1 a1 w1 ev1 s1 => ?_).1, fun _ e => by cases e⟩⟩
        exact hq μ1 a1 w1 ev1 s1
    · -- cond
      rename_i y p q
      have hlp : LpOK P lf p := fun b hb => hl b (by simp [loopsOf, hb])
      have hlq : LpOK P lf q := fun b hb => hl b (by simp [loopsOf, hb])
      split at h
      · rename_i t ht
        cases t with
        | true =>
          obtain ⟨x, st1, h1, h2, h3, h4⟩ := evCode_sel hn hc n p hlp st K r hp h
          exact ⟨x, st1, h1, h2, h3, fun {Q μ a w} s hq => ⟨wp_cond (evalA_VR s.fr ht) (h4 s hq).1, fun _ e => by cases e⟩⟩
        | false =>
          obtain ⟨x, st1, h1, h2, h3, h4⟩ := evCode_sel hn hc n q hlq st K r hp h
          exact ⟨x, st1, h1, h2, h3, fun {Q μ a w} s hq => ⟨wp_cond (evalA_VR s.fr ht) (h4 s hq).1, fun _ e => by cases e⟩⟩
      · rename_i t ht
        obtain ⟨pc, hp', ⟨hc1, hk⟩ | ⟨hc1, hk⟩⟩ := askA_sel hp h
        · obtain ⟨x, st1, h1, h2, h3, h4⟩ := evCode_sel hn hc n p hlp _ K r hp' hk
          refine ⟨x, st1, h1, h2, (LG.wpc _ _).trans h3, fun {Q μ a w} s hq => ⟨?_, fun _ e => by cases e⟩⟩
          have hv : a.eval y = .bool t.den.asB := evalA_VR s.fr ht
          rw [hc1] at hv
          exact wp_cond hv (h4 (s.wpc pc) hq).1
        · obtain ⟨x, st1, h1, h2, h3, h4⟩ := evCode_sel hn hc n q hlq _ K r hp' hk
          refine ⟨x, st1, h1, h2, (LG.wpc _ _).trans h3, fun {Q μ a w} s hq => ⟨?_, fun _ e => by cases e⟩⟩
          have hv : a.eval y = .bool t.den.asB := evalA_VR s.fr ht
          rw [hc1] at hv
          exact wp_cond hv (h4 (s.wpc pc) hq).1
      · simp [Tree.sel] at h
    · -- block
      rename_i id body
      obtain ⟨x, st1, h1, h2, h3, h4⟩ := evCode_sel hn hc n body hl st _ r hp h
      cases x with
      | exit j =>
        cases hb : Nat.beq j id with
        | true =>
          simp only [hb, cond_true] at h1
          refine ⟨_, st1, h1, h2, h3, fun {Q μ a w} s hq => ⟨wp_block (h4 s fun μ1 a1 w1 ev1 s1 => ?_).1, fun _ e => by cases e⟩⟩
          simp only [toExit, Exit.inBlock, if_pos (Nat.eq_of_beq_eq_true hb)]
          exact hq μ1 a1 w1 ev1 s1
        | false =>
          simp only [hb, cond_false] at h1
          refine ⟨_, st1, h1, h2, h3, fun {Q μ a w} s hq => ⟨wp_block (h4 s fun μ1 a1 w1 ev1 s1 => ?_).1, fun _ e => by cases e⟩⟩
          have : j ≠ id := fun e => by subst e; simp at hb
          simp only [toExit, Exit.inBlock, if_neg this]
          exact hq μ1 a1 w1 ev1 s1
      | normal =>
        refine ⟨_, st1, h1, h2, h3, fun {Q μ a w} s hq => ⟨wp_block (h4 s fun μ1 a1 w1 ev1 s1 => ?_).1, fun _ e => by cases e⟩⟩
        exact hq μ1 a1 w1 ev1 s1
      | ret =>
        refine ⟨_, st1, h1, h2, h3, fun {Q μ a w} s hq => ⟨wp_block (h4 s fun μ1 a1 w1 ev1 s1 => ?_).1, fun _ e => by cases e⟩⟩
        exact hq μ1 a1 w1 ev1 s1
    · -- loop
      rename_i body
      split at h
      · rename_i o x st' hgs
        obtain ⟨g, hg, hgs⟩ : ∃ g, lf (loopKey body) = some g ∧ g st = some (o, x, st') := by
          split at hgs
          · rename_i g hg; exact ⟨g, hg, hgs⟩
          · cases hgs
        obtain ⟨pc, hp', ⟨hc1, hk⟩ | ⟨_, hk⟩⟩ := askA_sel hp h
        · obtain ⟨q1, q2⟩ := hl body (by simp [loopsOf]) g hg st o x st' hp hgs hc1
          have hE : ∀ {Q : Exit → Act → World → Prop} {μ : Mu} {a : Act} {w : World}, SRel P μ st a w → (∀ μ' a' w', Evo μ st.H.get st.H.next w μ' st'.H.get st'.H.next w' → SRel P μ' ⟨st'.nt, st'.fr, st'.H.wpc pc, st'.df⟩ a' w' → Q (toExit x) a' w') → LoopE P body Q a w := fun {Q μ a w} s hq =>
            q2 s fun μ1 a1 w1 ev1 s1 => hq μ1 a1 w1 ev1 (s1.wpc _)
          exact ⟨x, _, hk, hp', q1.trans (LG.wpc _ _), fun {Q μ a w} s hq => ⟨(hE s hq).wp, fun b e => by cases e; exact hE s hq⟩⟩
        · simp [Tree.sel] at hk
      · have hlb : LpOK P lf body := fun b hb => hl b (by simp [loopsOf, hb])
        obtain ⟨x, st1, h1, h2, h3, h4⟩ := evCode_sel hn hc n body hlb st _ r hp h
        cases x with
        | normal =>
          have hpt : PC (trim st1).H := by rw [trim_H]; exact h2
          obtain ⟨y, st2, k1, k2, k3, k4⟩ := evCode_sel hn hc n (.loop body) hl (trim st1) K r hpt h1
          rw [trim_H] at k3
          have hr : ∀ {Q : Exit → Act → World → Prop} {μ : Mu} {a : Act} {w : World}, SRel P μ st a w → (∀ μ' a' w', Evo μ st.H.get st.H.next w μ' st2.H.get st2.H.next w' → SRel P μ' st2 a' w' → Q (toExit y) a' w') → LoopE P body Q a w := fun {Q μ a w} s hq => by
            refine LoopE.step (h4 s fun μ1 a1 w1 ev1 s1 => ?_).1
            refine (k4 (Q := Q) s1.trim fun μ2 a2 w2 ev2 s2 => ?_).2 body rfl
            rw [trim_H] at ev2
            exact hq μ2 a2 w2 (ev1.trans ev2) s2
          exact ⟨y, st2, k1, k2, h3.trans k3, fun s hq => ⟨(hr s hq).wp, fun b e => by cases e; exact hr s hq⟩⟩
        | ret =>
          have hr : ∀ {Q : Exit → Act → World → Prop} {μ : Mu} {a : Act} {w : World}, SRel P μ st a w → (∀ μ' a' w', Evo μ st.H.get st.H.next w μ' st1.H.get st1.H.next w' → SRel P μ' st1 a' w' → Q .ret a' w') → LoopE P body Q a w := fun {Q μ a w} s hq =>
            LoopE.step (h4 (Q := Exit.then (LoopE P body Q) Q) s fun μ1 a1 w1 ev1 s1 => hq μ1 a1 w1 ev1 s1).1
          exact ⟨_, st1, h1, h2, h3, fun s hq => ⟨(hr s hq).wp, fun b e => by cases e; exact hr s hq⟩⟩
        | exit j =>
          have hr : ∀ {Q : Exit → Act → World → Prop} {μ : Mu} {a : Act} {w : World}, SRel P μ st a w → (∀ μ' a' w', Evo μ st.H.get st.H.next w μ' st1.H.get st1.H.next w' → SRel P μ' st1 a' w' → Q (.exit j) a' w') → LoopE P body Q a w := fun {Q μ a w} s hq =>
            LoopE.step (h4 (Q := Exit.then (LoopE P body Q) Q) s fun μ1 a1 w1 ev1 s1 => hq μ1 a1 w1 ev1 s1).1
          exact ⟨_, st1, h1, h2, h3, fun s hq => ⟨(hr s hq).wp, fun b e => by cases e; exact hr s hq⟩⟩
    · -- exit
      exact ⟨_, _, h, hp, LG.refl _, fun {Q μ a w} s hq => ⟨wp_exit (hq μ a w (Evo.refl s.rep s.dom) s), fun _ e => by cases e⟩⟩
    · -- scope
      rename_i body
      obtain ⟨x, st1, h1, h2, h3, h4⟩ := evCode_sel hn hc n body hl st K r hp h
      refine ⟨x, st1, h1, h2, h3, fun {Q μ a w} s hq => ⟨wp_scope_straight (h4 s fun μ1 a1 w1 ev1 s1 => ?_).1, fun _ e => by cases e⟩⟩
      have := hq μ1 a1 w1 ev1 s1
      cases x <;> exact this
    · -- label
      exact ⟨_, _, h, hp, LG.refl _, fun {Q μ a w} s hq => ⟨wp_label (hq μ a w (Evo.refl s.rep s.dom) s), fun _ e => by cases e⟩⟩
    · -- ret
      exact ⟨_, _, h, hp, LG.refl _, fun {Q μ a w} s hq => ⟨wp_ret (hq μ a w (Evo.refl s.rep s.dom) s), fun _ e => by cases e⟩⟩
    · simp [Tree.sel] at h
end
end Go.Proofs.Ytamibbjpapkfeaa.Ab
