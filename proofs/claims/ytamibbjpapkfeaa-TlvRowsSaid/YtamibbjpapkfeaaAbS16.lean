import Derived.Test.YtamibbjpapkfeaaAbS15
namespace Go.Proofs.Ytamibbjpapkfeaa.Ab
set_option linter.unusedSimpArgs false
set_option linter.unusedVariables false
open Go
set_option linter.unusedSectionVars false
variable [Rho]
section
variable {P : Program}

/-! ### the end of a call -/
theorem evo_sub {μ μ' : Mu} {h h' g : Nat → Option AObj} {n n' : Nat} {w w' : World} (e : ∀ id o, g id = some o → h' id = some o) (ev : Evo μ h n w μ' h' n' w') : Evo μ h n w μ' g n' w' where
  ext := ev.ext
  rep := ⟨fun id o ho => ev.rep.obj id o (e id o ho), fun i j oi oj li lj hi hj => ev.rep.inj i j oi oj li lj (e i oi hi) (e j oj hj)⟩
  lo := ev.lo
  dom := ev.dom
  old := ev.old
  keep := ev.keep
  mine := fun b ⟨j, o, l, h1, h2⟩ hb => ev.mine b ⟨j, o, l, e j o h1, h2⟩ hb
  live := fun id o h => ev.live id o (e id o h)
  size := ev.size
  os := ev.os
  tape := ev.tape
  output := ev.output
theorem get_keep (n : Nat) (K : List Nat) (l : List (Nat × AObj)) (id : Nat) : look (l.filter fun p => Nat.blt p.1 n || memN p.1 K) id = if (Nat.blt id n || memN id K) = true then look l id else none := look_filter (fun x => Nat.blt x n || memN x K) l id
theorem filter_nil {n : Nat} {l : List Nat} (h : l.filter (fun x => Nat.blt x n) = []) : ∀ x ∈ l, n ≤ x := fun x hx => by
  have := List.filter_eq_nil_iff.1 h x hx
  simp [Nat.blt_eq] at this; omega
theorem closeA_run {μ μ' : Mu} {H H' : Heap} {v : AV} {c : Value} {w w' : World} (r : Rep μ H.get w) (d : Dom μ H.next) (ev : Evo μ H.get H.next w μ' H'.get H'.next w') (lg : LG (bare H) H') (hv : VR μ' v c) :
    (∃ μ2 c2, c = c2 ∧ VR μ2 (closeA H v H').1 c2 ∧ Evo μ H.get H.next w μ2 (closeA H v H').2.get (closeA H v H').2.next w') ∧ LG H (closeA H v H').2 := by
  have hbd : Bd H := fun id o ho => r.lt d ho
  obtain ⟨hbd', l, h1, h2, h3⟩ := lg hbd
  have hl : H'.log = l := by simpa [bare] using h1
  unfold closeA
  split
  · rename_i q2 q1
    have q2 := filter_nil q2
    have hsame : ∀ id, id < H.next → H'.get id = H.get id := fun id hid => h2 id hid fun hm => by
      have := q2 id (hl ▸ hm)
      omega
    refine ⟨⟨μ, c, rfl, hv.flat v c q1, Ext.refl μ, ⟨fun id o ho => ?_, r.inj⟩, Nat.le_refl _, d, fun id l' e1 e2 => (by rw [e2] at e1; cases e1), ev.keep, fun _ m _ => m, fun id o h => .inl ⟨o, h⟩, ev.size, ev.os, ev.tape, ev.output⟩, LG.refl _⟩
    have hid := r.lt d ho
    exact (r.obj id o ho).back ev.ext (ev.rep.obj id o (by rw [hsame id hid]; exact ho))
  · rename_i q
    have hsub : ∀ id o, look (H'.objs.filter fun p => Nat.blt p.1 H.next || memN p.1 (keepNew H.next H' v (H'.log.filter fun x => Nat.blt x H.next))) id = some o → H'.get id = some o := fun id o ho => by
      rw [get_keep] at ho
      split at ho
      · exact ho
      · cases ho
    refine ⟨⟨μ', c, rfl, hv, evo_sub hsub ev⟩, fun _ => ⟨fun id o ho => hbd' id o (hsub id o ho), H'.log.filter (fun x => Nat.blt x H.next), rfl, fun id hid hm => ?_, h3⟩⟩
    show look (H'.objs.filter _) id = _
    have hb : Nat.blt id H.next = true := by simpa [Nat.blt_eq] using hid
    rw [get_keep, if_pos (by rw [hb]; rfl)]
    refine h2 id hid fun hm' => hm ?_
    rw [List.mem_filter]
    exact ⟨hl ▸ hm', hb⟩

theorem closeA_LG {H G : Heap} (lg : LG (bare H) G) (v' : AV) : LG H (closeA H v' G).2 := fun b => by
  obtain ⟨b', l, q1, q2, q3⟩ := lg b
  have hl : G.log = l := by simpa [bare] using q1
  unfold closeA
  split
  · exact LG.refl _ b
  · have hsub : ∀ id o, look (G.objs.filter fun p => Nat.blt p.1 H.next || memN p.1 (keepNew H.next G v' (G.log.filter fun x => Nat.blt x H.next))) id = some o → G.get id = some o := fun id o ho => by
      rw [get_keep] at ho
      split at ho
      · exact ho
      · cases ho
    refine ⟨fun id o ho => b' id o (hsub id o ho), G.log.filter (fun x => Nat.blt x H.next), rfl, fun id hid hm => ?_, q3⟩
    show look (G.objs.filter _) id = _
    have hb : Nat.blt id H.next = true := by simpa [Nat.blt_eq] using hid
    rw [get_keep, if_pos (by rw [hb]; rfl)]
    refine q2 id hid fun hm' => hm ?_
    rw [List.mem_filter]
    exact ⟨hl ▸ hm', hb⟩
/-! ### results -/
theorem resA_run {fr : FR} {H : Heap} {μ : Mu} {tmps : Array Value} {w : World} (hf : FRel μ fr tmps) (r : Rep μ H.get w) : ∀ (l : List ResultVar) (vs : List AV), resA P fr H l = some vs →
    ∃ cs : List Value, (l.mapM (fun | .tmp t => pure (tmps.getD t undef) | .cell a t => do loadVar t (← asAddr (tmps.getD a undef)) : ResultVar → Sem Value)).run P w = .ok cs w ∧ VRs μ vs cs
  | [], vs, h => by simp [resA] at h; subst h; exact ⟨[], rfl, rfl⟩
  | .tmp t :: l, vs, h => by
    simp only [resA] at h
    split at h
    · rename_i v rest hv hr
      cases h
      obtain ⟨c, h1, h2⟩ := hf t v hv
      obtain ⟨cs, h3, h4⟩ := resA_run hf r l rest hr
      refine ⟨c :: cs, ?_, c, cs, h2, h4, rfl⟩
      have hg : tmps.getD t undef = c := by simp [Array.getD_eq_getD_getElem?, h1]
      simp only [List.mapM_cons, Sem.run_bind, Sem.run_pure, Result.andThen_ok, h3, hg]
    · cases h
  | .cell a t :: l, vs, h => by
    simp only [resA] at h
    split at h
    · rename_i p hp
      split at h
      · rename_i v rest hv hr
        cases h
        obtain ⟨c, h1, h2⟩ := hf a p hp
        obtain ⟨cs, h3, h4⟩ := resA_run hf r l rest hr
        obtain ⟨y, h5, h6⟩ := loadA_run hv r h2
        refine ⟨y :: cs, ?_, y, cs, h6, h4, rfl⟩
        have hg : tmps.getD a undef = c := by simp [Array.getD_eq_getD_getElem?, h1]
        have hld : (do loadVar t (← asAddr c) : Sem Value).run P w = .ok y w := by
          unfold loadA at hv
          split at hv
          · obtain ⟨L, _, _, _, _, rfl⟩ := h2
            simpa [Instr.loadAt, Instr.sureAddr, asAddr] using h5
          · obtain ⟨L, _, rfl⟩ := h2
            simpa [Instr.loadAt, Instr.sureAddr, asAddr] using h5
          · cases hv
        simp only [Sem.run_bind] at hld
        simp only [List.mapM_cons, Sem.run_bind, Sem.run_pure, hg, hld, Result.andThen_ok, h3]
      · cases h
    · cases h
theorem resultsA_run {fn : Func} {fr : FR} {H : Heap} {v : AV} (h : resultsA P fn fr H = some v) {μ : Mu} {tmps : Array Value} {w : World} (hf : FRel μ fr tmps) (r : Rep μ H.get w) : ∃ c, (results fn tmps).run P w = .ok c w ∧ VR μ v c := by
  unfold resultsA at h
  have key : ∀ vs, resA P fr H fn.results.toList = some vs → ∃ cs : List Value, (results fn tmps).run P w = .ok (if h : cs.toArray.size = 1 then cs.toArray[0] else .tuple cs.toArray) w ∧ VRs μ vs cs := fun vs hv => by
    obtain ⟨cs, h1, h2⟩ := resA_run hf r _ vs hv
    refine ⟨cs, ?_, h2⟩
    unfold results
    rw [Sem.run_bind, Array.mapM_eq_mapM_toList, Sem.run_map]
    exact (congrArg (fun r => (Result.andThen (Result.andThen r _) _)) h1).trans rfl
  split at h
  · rename_i u hu
    cases h
    obtain ⟨cs, h1, h2⟩ := key _ hu
    obtain ⟨x, rr, h3, h4, rfl⟩ := h2
    cases h4
    exact ⟨x, by simpa using h1, h3⟩
  · rename_i l hne hl
    cases h
    obtain ⟨cs, h1, h2⟩ := key _ hl
    have : ¬ cs.toArray.size = 1 := by
      intro e
      have := h2.length
      simp at e
      rw [e] at this
      match l, this with
      | [u], _ => exact hne u rfl
    rw [dif_neg this] at h1
    exact ⟨_, h1, cs, h2, rfl⟩
  · cases h
theorem lk_frame1 : ∀ (l : List AV) (i t : Nat), lk (frame1 i l) t = if i ≤ t then l[t - i]? else none
  | [], i, t => by simp [frame1, lk_nil]
  | v :: l, i, t => by
    rw [frame1, lk_cons, lk_frame1 l (i + 1) t]
    by_cases h1 : t = i
    · subst h1; simp
    · rw [if_neg h1]
      by_cases h2 : i + 1 ≤ t
      · rw [if_pos h2, if_pos (by omega)]
        obtain ⟨j, rfl⟩ : ∃ j, t = i + 1 + j := ⟨t - (i + 1), by omega⟩
        have e1 : i + 1 + j - (i + 1) = j := by omega
        have e2 : i + 1 + j - i = j + 1 := by omega
        rw [e1, e2, List.getElem?_cons_succ]
      · rw [if_neg h2, if_neg (by omega)]
theorem SRel.start {μ : Mu} {H : Heap} {args : List AV} {cargs : List Value} {w : World} (hv : VRs μ args cargs) (r : Rep μ H.get w) (d : Dom μ H.next) {n : Nat} (hle : args.length ≤ n) :
    SRel P μ ⟨n, frame1 0 args, bare H, []⟩ { tmps := cargs.toArray ++ Array.replicate (n - cargs.toArray.size) undef, defers := [] } w := by
  have hl := hv.length
  refine ⟨fun t v h => ?_, by simp; omega, rfl, r, d⟩
  rw [lk_frame1] at h
  simp at h
  obtain ⟨c, h1, h2⟩ := hv.get t v h
  have hlt := (List.getElem?_eq_some_iff.1 h1).1
  exact ⟨c, by rw [Array.getElem?_append_left (by simpa using hlt)]; simpa using h1, h2⟩

/-! ### a whole call -/
/-- The contracts that are handed in hold. -/
structure EnvOK (P : Program) (env : Env) : Prop where
  fn : ∀ f g, env.fn f = some g → ∀ args H o v H', PC H → g args H = some (o, v, H') → o.den.asB = true → CallS P f args H v H' ∧ LG H H'
  lp : ∀ (f : FuncId) (fn : Func) (c : Code), P.funcs[f]? = some fn → fn.body = some c → LpOK P (env.lp f) c
theorem evBody_sel (hn : NoCount P) {α : Type} {cf : CallF α} (hc : CfOK P cf) {lf : LoopF} {f : FuncId} (hl : ∀ (fn : Func) (c : Code), P.funcs[f]? = some fn → fn.body = some c → LpOK P lf c) {args : List AV} {H : Heap} {K : Func → St → Tree α} {r : α} (hp : PC H) (h : (evBody P cf lf f args H K).sel = some r) :
    ∃ fn st c x, (K fn st).sel = some r ∧ PC st.H ∧ LG (bare H) st.H ∧ P.funcs[f]? = some fn ∧ fn.body = some c ∧ args.length ≤ fn.ntmps ∧ (x = .normal ∨ x = .ret) ∧
      ∀ {Q : Exit → Act → World → Prop} {μ : Mu} {a : Act} {w : World}, SRel P μ ⟨fn.ntmps, frame1 0 args, bare H, []⟩ a w → (∀ μ' a' w', Evo μ H.get H.next w μ' st.H.get st.H.next w' → SRel P μ' st a' w' → Q (toExit x) a' w') → c.wp P Q a w := by
  unfold evBody at h
  split at h
  · rename_i fn hf
    split at h
    · rename_i c hb
      cases hle : Nat.ble args.length fn.ntmps with
      | false => simp [hle, Tree.sel] at h
      | true =>
        simp only [hle, cond_true] at h
        obtain ⟨x, st, h1, h2, h3, h4⟩ := evCode_sel hn hc 1000000 c (hl fn c hf hb) _ _ r (by exact hp) h
        cases x with
        | normal => exact ⟨fn, st, c, .normal, h1, h2, h3, hf, hb, Nat.le_of_ble_eq_true hle, .inl rfl, fun s hq => (h4 s hq).1⟩
        | ret => exact ⟨fn, st, c, .ret, h1, h2, h3, hf, hb, Nat.le_of_ble_eq_true hle, .inr rfl, fun s hq => (h4 s hq).1⟩
        | exit id => simp [Tree.sel] at h1
    · simp [Tree.sel] at h
  · simp [Tree.sel] at h
theorem closeA_PC {H H' : Heap} {v : AV} (h : PC H') : PC (closeA H v H').2 := by
  unfold closeA
  split <;> exact h
theorem evPlain_sel (hn : NoCount P) {α : Type} {cf : CallF α} (hc : CfOK P cf) {lf : FuncId → LoopF} (hl : ∀ (f : FuncId) (fn : Func) (c : Code), P.funcs[f]? = some fn → fn.body = some c → LpOK P (lf f) c) {f : FuncId} {args : List AV} {H : Heap} {K : AV → Heap → Tree α} {r : α} (hp : PC H) (h : (evPlain P cf lf f args H K).sel = some r) :
    ∃ v H', (K v H').sel = some r ∧ PC H' ∧ (∀ μ w cargs u, VRs μ args cargs → Rep μ H.get w → Dom μ H.next → CallsD P f (List.toArray cargs) u w fun e u' w' => u' = u ∧ ∃ μ' c, e = .returned c ∧ VR μ' v c ∧ Evo μ H.get H.next w μ' H'.get H'.next w') ∧ LG H H' := by
  unfold evPlain at h
  obtain ⟨fn, st, c, x, h1, h2, lg, h3, h4, h5, h6, h7⟩ := evBody_sel hn hc (hl f) hp h
  split at h1
  · rename_i nt fr G
    split at h1
    · rename_i v' hres
      refine ⟨(closeA H v' G).1, (closeA H v' G).2, h1, closeA_PC h2, fun μ w cargs u hv r d => ?_, closeA_LG lg v'⟩
      refine callsD_of_wp (R := fun e w' => ∃ μ' c, e = .returned c ∧ VR μ' (closeA H v' G).1 c ∧ Evo μ H.get H.next w μ' (closeA H v' G).2.get (closeA H v' G).2.next w') h3 h4 ?_
      refine h7 (SRel.start hv r d h5) fun μ1 a1 w1 ev1 s1 => ?_
      obtain ⟨cv, hr1, hr2⟩ := resultsA_run hres s1.fr s1.rep
      obtain ⟨⟨μ2, c2, rfl, k1, k2⟩, _⟩ := closeA_run (H := H) r d ev1 lg hr2
      have hdf : a1.defers = [] := s1.df
      rcases h6 with rfl | rfl
      · exact ⟨hdf, cv, hr1, μ2, cv, rfl, k1, k2⟩
      · exact ⟨hdf, cv, hr1, μ2, cv, rfl, k1, k2⟩
    · simp [Tree.sel] at h1
  · simp [Tree.sel] at h1
theorem evDf_sel (hn : NoCount P) {α : Type} {cf : CallF α} (hc : CfOK P cf) {lf : FuncId → LoopF} (hl : ∀ (f : FuncId) (fn : Func) (c : Code), P.funcs[f]? = some fn → fn.body = some c → LpOK P (lf f) c) (fn : Func) : ∀ (df : List (FuncId × List AV)) (H : Heap) (K : Heap → Tree α) (r : α), PC H → (evDf P cf lf df H K).sel = some r →
    ∃ H', (K H').sel = some r ∧ PC H' ∧ LG H H' ∧ ∀ (μ : Mu) (w : World) (ds : List Deferred) (tmps : Array Value) (R : Ending → World → Prop), DRel P μ df ds → Rep μ H.get w → Dom μ H.next →
      (∀ μ' w', Evo μ H.get H.next w μ' H'.get H'.next w' → Leaves P fn tmps R [] .returning w') → Leaves P fn tmps R ds .returning w
  | [], H, K, r, hp, h => by
    simp only [evDf] at h
    exact ⟨H, h, hp, LG.refl _, fun μ w ds tmps R hd r d k => by cases hd; exact k μ w (Evo.refl r d)⟩
  | (f, args) :: l, H, K, r, hp, h => by
    simp only [evDf] at h
    obtain ⟨v, H1, h1, h2, p1, p2⟩ := evPlain_sel hn hc hl hp h
    obtain ⟨H', q0, q1, q2, q3⟩ := evDf_sel hn hc hl fn l H1 K r h2 h1
    refine ⟨H', q0, q1, p2.trans q2, fun μ w ds tmps R hd r d k => ?_⟩
    obtain ⟨dd, rr, ⟨fv, cap, cargs, e1, e2, e3⟩, h3, rfl⟩ := hd
    obtain ⟨tg, ag⟩ := dd
    simp only at e1 e2
    subst e1
    refine leaves_cons (by simp) (e2 w) ((p1 μ w cargs .returning e3 r d).mono fun e u' w' hh => ?_)
    obtain ⟨rfl, μ', c, rfl, k1, k2⟩ := hh
    show Leaves P fn tmps R rr (settle .returning) w'
    exact q3 μ' w' rr tmps R (h3.ext k2.ext) k2.rep k2.dom fun μ2 w2 ev2 => k μ2 w2 (k2.trans ev2)
theorem evFun_ok (hn : NoCount P) {env : Env} (he : EnvOK P env) {α : Type} : ∀ n, CfOK P (evFun (α := α) P env n)
  | 0 => fun f args H K r hp h => by simp [evFun, Tree.sel] at h
  | n + 1 => fun f args H K r hp h => by
    have hc := evFun_ok hn he (α := α) n
    unfold evFun at h
    split at h
    · rename_i g hg
      split at h
      · rename_i o v H' hgs
        obtain ⟨pc, hp', ⟨hc1, hk⟩ | ⟨_, hk⟩⟩ := askA_sel hp h
        · obtain ⟨q1, q2⟩ := he.fn f g hg args H o v H' hp hgs hc1
          exact ⟨v, _, hk, hp', q1, q2.trans (LG.wpc _ _)⟩
        · simp [Tree.sel] at hk
      · simp [Tree.sel] at h
    · obtain ⟨fn, st, c, x, h1, h2, lg0, h3, h4, h5, h6, h7⟩ := evBody_sel hn hc (he.lp f) hp h
      obtain ⟨G, k1, k2, d1, d2⟩ := evDf_sel hn hc he.lp fn st.df st.H _ r h2 h1
      split at k1
      · rename_i v' hres
        have lg := lg0.trans d1
        refine ⟨(closeA H v' G).1, (closeA H v' G).2, k1, closeA_PC k2, fun μ w cargs hv r d => ?_, closeA_LG lg v'⟩
        refine calls_of_wp_defers h3 h4 ?_
        refine h7 (SRel.start hv r d h5) fun μ1 a1 w1 ev1 s1 => ?_
        have fin : Leaves P fn a1.tmps (fun e w' => ∃ μ' c, e = .returned c ∧ VR μ' (closeA H v' G).1 c ∧ Evo μ H.get H.next w μ' (closeA H v' G).2.get (closeA H v' G).2.next w') a1.defers .returning w1 := by
          refine d2 μ1 w1 a1.defers a1.tmps _ s1.df s1.rep s1.dom fun μ2 w2 ev2 => ?_
          obtain ⟨cv, hr1, hr2⟩ := resultsA_run hres (s1.fr.ext ev2.ext) ev2.rep
          obtain ⟨⟨μ3, c3, rfl, k1, k2⟩, _⟩ := closeA_run (H := H) r d (ev1.trans ev2) lg hr2
          exact ⟨cv, hr1, μ3, cv, rfl, k1, k2⟩
        rcases h6 with rfl | rfl
        · exact fin
        · exact fin
      · simp [Tree.sel] at k1
theorem none0_ok : EnvOK P none0 := ⟨fun f g h => (by cases h), fun f fn c _ _ body _ g h => (by cases h)⟩
end
end Go.Proofs.Ytamibbjpapkfeaa.Ab
