/-
  Functions that defer a call which does nothing unless they panic; kept runs of these.
  Conditions: as each theorem tells.
-/
import Derived.Test.YtnncgjhgmmdilaaGreatDoorMem
namespace Go.Proofs.YtnncgjhgmmdilaaGreatDoor.Ab
set_option linter.unusedSimpArgs false
set_option linter.unusedVariables false
open Go
set_option linter.unusedSectionVars false
/-- Only calls of one function, of one value. -/
def idleDf (idle : FuncId) : List (FuncId × List AV) → Bool
  | [] => true
  | p :: l => (Nat.beq p.1 idle && Nat.beq p.2.length 1) && idleDf idle l
/-- A function, evaluated; what it defers does nothing. -/
noncomputable def evFunD {α : Type} (P : Program) (env : Env) (idle : FuncId) (n : Nat) : CallF α := fun f args H k =>
  evBody P (evFun P env n) (env.lp f) f args H fun fn st => bif idleDf idle st.df then (match resultsA P fn st.fr st.H with
    | some v => k (closeA H v st.H).1 (closeA H v st.H).2
    | none => .fail) else .fail
section
variable [ρ : Rho] {P : Program}
/-- It does nothing in a frame that returns. -/
def IdleOK (P : Program) (idle : FuncId) : Prop := ∀ (x : Value) (w : World), CallsD P idle #[x] .returning w fun e u' w' => (∃ v, e = .returned v) ∧ u' = .returning ∧ w' = w
theorem idle_leaves {idle : FuncId} (hI : IdleOK P idle) {fn : Func} {tmps : Array Value} {R : Ending → World → Prop} {w : World} {μ : Mu} (h : Leaves P fn tmps R [] .returning w) : ∀ (df : List (FuncId × List AV)) (ds : List Deferred), idleDf idle df = true → DRel P μ df ds → Leaves P fn tmps R ds .returning w
  | [], ds, _, hd => by cases hd; exact h
  | (f, args) :: l, ds, hi, hd => by
    simp only [idleDf, Bool.and_eq_true] at hi
    obtain ⟨⟨i1, i2⟩, i3⟩ := hi
    obtain ⟨dd, rr, ⟨fv, cap, cargs, e1, e2, e3⟩, h3, rfl⟩ := hd
    obtain rfl := Nat.eq_of_beq_eq_true i1
    obtain ⟨tg, ag⟩ := dd
    simp only at e1 e2
    subst e1
    have hl := e3.length
    rw [Nat.eq_of_beq_eq_true i2] at hl
    obtain ⟨x, rfl⟩ : ∃ x, cargs = [x] := by
      match cargs, hl with
      | [x], _ => exact ⟨x, rfl⟩
    refine leaves_cons (by simp) (e2 w) ((hI x w).mono fun e u' w' hh => ?_)
    obtain ⟨⟨v, rfl⟩, rfl, rfl⟩ := hh
    show Leaves P fn tmps R rr (settle .returning) w'
    exact idle_leaves hI h l rr i3 h3
theorem evFunD_ok (hn : NoCount P) {env : Env} (he : EnvOK P env) {idle : FuncId} (hI : IdleOK P idle) {α : Type} (n : Nat) : CfOK P (evFunD (α := α) P env idle n) := fun f args H K r hp h => by
  have hc := evFun_ok hn he (α := α) n
  unfold evFunD at h
  obtain ⟨fn, st, c, x, h1, h2, lg0, h3, h4, h5, h6, h7⟩ := evBody_sel hn hc (he.lp f) hp h
  cases hb : idleDf idle st.df with
  | false => rw [hb] at h1; simp [Tree.sel] at h1
  | true =>
    rw [hb] at h1
    simp only [cond_true] at h1
    split at h1
    · rename_i v' hres
      refine ⟨(closeA H v' st.H).1, (closeA H v' st.H).2, h1, closeA_PC h2, fun μ w cargs hv r d => ?_, closeA_LG lg0 v'⟩
      refine calls_of_wp_defers h3 h4 ?_
      refine h7 (SRel.start hv r d h5) fun μ1 a1 w1 ev1 s1 => ?_
      have fin : Leaves P fn a1.tmps (fun e w' => ∃ μ' c, e = .returned c ∧ VR μ' (closeA H v' st.H).1 c ∧ Evo μ H.get H.next w μ' (closeA H v' st.H).2.get (closeA H v' st.H).2.next w') a1.defers .returning w1 := by
        refine idle_leaves hI ?_ st.df a1.defers hb s1.df
        obtain ⟨cv, hr1, hr2⟩ := resultsA_run hres s1.fr s1.rep
        obtain ⟨⟨μ3, c3, rfl, k1, k2⟩, _⟩ := closeA_run (H := H) r d ev1 lg0 hr2
        exact ⟨cv, hr1, μ3, cv, rfl, k1, k2⟩
      rcases h6 with rfl | rfl
      · exact fin
      · exact fin
    · simp [Tree.sel] at h1
/-! ### kept runs, by whatever reckons them -/
noncomputable def Memo.chkC (M : Memo) (cf : CallF (AV × Heap)) (f : FuncId) : Bool := M.says (cf f M.a ⟨M.H.next, M.H.objs, [], []⟩ fun v R => .leaf (v, R))
theorem memoC_ok {cf : CallF (AV × Heap)} (hc : CfOK P cf) {f : FuncId} {M : Memo} (h : M.chkC cf f = true) {H : Heap} (h1 : H.next = M.H.next) (h2 : H.objs = M.H.objs) :
    CallS P f M.a H M.v ⟨M.R.next, M.R.objs, M.R.log ++ H.log, H.pc⟩ ∧ LG H ⟨M.R.next, M.R.objs, M.R.log ++ H.log, H.pc⟩ := by
  unfold Memo.chkC at h
  generalize ht : (cf f M.a ⟨M.H.next, M.H.objs, [], []⟩ fun v R => Tree.leaf (v, R)) = t at h
  cases t with
  | fail => cases h
  | fork c x y => cases h
  | leaf p =>
    obtain ⟨v, R⟩ := p
    simp only [Memo.says, Bool.and_eq_true] at h
    obtain ⟨e1, e2, e3, e4⟩ := h
    have e1 := eqvA_eq _ _ e1
    have e2 := Nat.eq_of_beq_eq_true e2
    have e3 := eqvOs_eq _ _ e3
    have e4 : ∀ i ∈ R.log, i ∈ M.R.log := fun i hi => (@memN_iff rho0 _ _).1 (List.all_eq_true.1 e4 i hi)
    have hs : (cf f M.a ⟨M.H.next, M.H.objs, [], []⟩ fun v R => Tree.leaf (v, R)).sel = some (v, R) := by rw [ht]; rfl
    obtain ⟨v', R', k1, _, k3, k4⟩ := hc f M.a ⟨M.H.next, M.H.objs, [], []⟩ _ (v, R) (fun p hp => by cases hp) hs
    cases k1
    have g0 : ∀ id, H.get id = Heap.get ⟨M.H.next, M.H.objs, [], []⟩ id := fun id => by
      show look H.objs id = look M.H.objs id
      rw [h2]
    have g1 : ∀ id, Heap.get ⟨M.R.next, M.R.objs, M.R.log ++ H.log, H.pc⟩ id = R.get id := fun id => by
      show look M.R.objs id = look R.objs id
      rw [e3]
    refine ⟨fun μ w cargs hv r d => ?_, fun bd => ?_⟩
    · have r' : Rep μ (Heap.get ⟨M.H.next, M.H.objs, [], []⟩) w := by rw [← funext g0]; exact r
      refine (k3 μ w cargs hv r' (by rw [← h1]; exact d)).mono fun e w' he' => ?_
      obtain ⟨μ', c, q1, q2, q3⟩ := he'
      refine ⟨μ', c, q1, by rw [← e1]; exact q2, ?_⟩
      rw [funext g0, funext g1, h1]
      show Evo μ _ M.H.next w μ' R.get M.R.next w'
      rw [← e2]
      exact q3
    · obtain ⟨b1, l, q1, q2, q3⟩ := k4 (fun id o ho => by
        rw [← g0] at ho
        show id < M.H.next
        rw [← h1]; exact bd id o ho)
      have q1 : R.log = l := by simpa using q1
      refine ⟨fun id o ho => ?_, M.R.log, rfl, fun id hid hl => ?_, ?_⟩
      · rw [g1] at ho
        show id < M.R.next
        rw [← e2]; exact b1 id o ho
      · rw [g1, g0]
        refine q2 id ?_ ?_
        · show id < M.H.next
          rw [← h1]; exact hid
        · rw [← q1]; exact fun hm => hl (e4 id hm)
      · show H.next ≤ M.R.next
        rw [h1, ← e2]; exact q3
/-- What a kept run says holds. -/
def MemoS (P : Program) (f : FuncId) (M : Memo) : Prop := ∀ {H : Heap}, H.next = M.H.next → H.objs = M.H.objs →
  CallS P f M.a H M.v ⟨M.R.next, M.R.objs, M.R.log ++ H.log, H.pc⟩ ∧ LG H ⟨M.R.next, M.R.objs, M.R.log ++ H.log, H.pc⟩
theorem memoS_ok {f : FuncId} : ∀ {l : List Memo}, (∀ M ∈ l, MemoS P f M) → ∀ {args : List AV} {H : Heap} {o : Tm} {v : AV} {H' : Heap}, memoG l args H = some (o, v, H') → CallS P f args H v H' ∧ LG H H'
  | [], _, _, _, _, _, _, h => by cases h
  | M :: l, hl, args, H, o, v, H', h => by
    simp only [memoG] at h
    cases hf : M.fits args H with
    | true =>
      rw [hf] at h
      simp only [cond_true, Option.some.injEq, Prod.mk.injEq] at h
      obtain ⟨rfl, rfl, rfl⟩ := h
      simp only [Memo.fits, Bool.and_eq_true] at hf
      obtain ⟨f1, f2, f3⟩ := hf
      rw [eqvAs_eq _ _ f2]
      exact hl M (by simp) (Nat.eq_of_beq_eq_true f1) (eqvOs_eq _ _ f3)
    | false =>
      rw [hf] at h
      exact memoS_ok (fun M hM => hl M (by simp [hM])) h
end
end Go.Proofs.YtnncgjhgmmdilaaGreatDoor.Ab
