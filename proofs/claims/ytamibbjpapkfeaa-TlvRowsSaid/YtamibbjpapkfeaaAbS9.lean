import Derived.Test.YtamibbjpapkfeaaAbS8
namespace Go.Proofs.Ytamibbjpapkfeaa.Ab
set_option linter.unusedSimpArgs false
set_option linter.unusedVariables false
open Go
set_option linter.unusedSectionVars false
variable [Rho]
section
variable {P : Program}

theorem copyA_run {t : TypeId} {dv x v : AV} {H H' : Heap} (h : copyA P t dv x H = some (v, H')) {ts : Array TypeId} (hts : ts[0]? = some t)
    {μ : Mu} {w : World} (r : Rep μ H.get w) (d : Dom μ H.next) {cd cx : Value} (hd : VR μ dv cd) (hx : VR μ x cx) (ty : TypeId) :
    ∃ μ' y w', (Builtin.copy_ ts ty #[cd, cx]).run P w = .ok y w' ∧ VR μ' v y ∧ Evo μ H.get H.next w μ' H'.get H'.next w' := by
  unfold copyA at h
  split at h
  case h_2 => cases h
  rename_i e m hu hm
  have hlen := lenA_run (P := P) hm hx w
  split at h
  · rename_i k id off len cap hk
    split at h
    · rename_i new vs lf hnew hg
      split at h
      · rename_i hc
        split at h
        · rename_i v' hp
          cases h
          obtain ⟨L, c0, e0, lo, hi, h1, h2, h3, h4, h5, h6, h7⟩ := rep_row r hg
          have hn : Nat.min m len ≤ m := Nat.min_le_left _ _
          have hk0 : 0 < k + 1 := Nat.succ_pos _
          · obtain ⟨cn, hn1, hn2⟩ := srcA_run (P := P) hnew hk0 r hx hm hn
            obtain ⟨w', q1, q2⟩ := store_cells (P := P) r d hg hp hn2 hc (lf && flats new) h1
            have hdst : ∃ a q, cd = .slice (some a) len q ∧ (storeCells a cn).run P w = .ok () w' := by
              by_cases h0 : len = 0
              · subst h0
                obtain ⟨a, q, rfl⟩ := hd.slice_zero
                have hl := srcA_len hnew hm hn
                have e0 : Nat.min m 0 = 0 := Nat.min_zero m
                rw [e0] at hl
                have : new = [] := List.eq_nil_of_length_eq_zero (by omega)
                subst this
                cases hn2
                have hw : w = w' := by
                  have : (storeCells ⟨L.b, L.s + off, none⟩ []).run P w = .ok () w := rfl
                  rw [this] at q1; cases q1; rfl
                subst hw
                exact ⟨a, q, rfl, rfl⟩
              · obtain ⟨q, rfl⟩ := hd.slice_at h1 h0
                exact ⟨_, q, rfl, q1⟩
            obtain ⟨a, q, rfl, hst⟩ := hdst
            refine ⟨μ, _, w', ?_, rfl, q2⟩
            unfold Builtin.copy_
            simp only [hts, List.getElem?_toArray, List.getElem?_cons_zero, List.getElem?_cons_succ]
            simp only [Sem.run_bind, run_underlying hu, Result.andThen_ok, hlen, szOf_run hk, hn1 w rfl, hst, Sem.run_pure]
            rfl
        · cases h
      · cases h
    · cases h
  · cases h
theorem clearA_run {t : TypeId} {x v : AV} {H H' : Heap} (h : clearA P t x H = some (v, H')) {ts : Array TypeId} (hts : ts[0]? = some t)
    {μ : Mu} {w : World} (r : Rep μ H.get w) (d : Dom μ H.next) {cx : Value} (hx : VR μ x cx) (ty : TypeId) :
    ∃ μ' y w', (Builtin.clear_ ts ty #[cx]).run P w = .ok y w' ∧ VR μ' v y ∧ Evo μ H.get H.next w μ' H'.get H'.next w' := by
  unfold clearA at h
  split at h
  · rename_i e hu
    cases h; cases hx
    refine ⟨μ, _, w, ?_, ⟨[], rfl, rfl⟩, Evo.refl r d⟩
    unfold Builtin.clear_
    simp only [hts, List.getElem?_toArray, List.getElem?_cons_zero]
    simp only [Sem.run_bind, run_underlying hu, Result.andThen_ok, Sem.run_pure]
  · rename_i e id off n cap hu
    split at h
    · rename_i n0
      cases h; subst n0
      obtain ⟨a, q, rfl⟩ := hx.slice_zero
      refine ⟨μ, _, w, ?_, ⟨[], rfl, rfl⟩, Evo.refl r d⟩
      unfold Builtin.clear_
      simp only [hts, List.getElem?_toArray, List.getElem?_cons_zero]
      simp only [Sem.run_bind, run_underlying hu, Result.andThen_ok, Sem.run_pure]
    · rename_i n0
      split at h
      · rename_i z vs lf hz hg
        split at h
        · rename_i hc
          split at h
          · rename_i v' hp
            cases h
            obtain ⟨L, c0, e0, lo, hi, h1, h2, _⟩ := rep_row r hg
            obtain ⟨zv, k, z1, z2, z3, z4, z5⟩ := zerosA_run hz μ w
            obtain ⟨q, rfl⟩ := hx.slice_at h1 n0
            obtain ⟨w', q1, q2⟩ := store_cells (P := P) r d hg hp z5 hc (lf && flats z) h1
            refine ⟨μ, _, w', ?_, ⟨[], rfl, rfl⟩, q2⟩
            obtain ⟨n', rfl⟩ : ∃ n', n = n' + 1 := ⟨n - 1, by omega⟩
            unfold Builtin.clear_
            simp only [hts, List.getElem?_toArray, List.getElem?_cons_zero]
            simp only [Sem.run_bind, run_underlying hu, Result.andThen_ok, Sem.run_pure, z1, zeroCells_eq zv.cells (n' + 1) k z3 z4, q1]
          · cases h
        · cases h
      · cases h
  · cases h
theorem min2A_run {x y v : AV} (h : min2A x y = some v) {μ : Mu} {cx cy : Value} (hx : VR μ x cx) (hy : VR μ y cy) (w : World) : ∃ c, (Builtin.min2 cx cy).run P w = .ok c w ∧ VR μ v c := by
  unfold min2A at h
  split at h
  · cases h; cases hx; cases hy; exact ⟨_, rfl, rfl⟩
  · split at h
    · rename_i k a k' b ha hb
      cases h; cases hx.tmI ha; cases hy.tmI hb
      refine ⟨_, rfl, ?_⟩
      have := mkI_VR μ k (iteT (iopT .lss k b a) b a)
      rw [iteT_den, iopT_den] at this
      have e : (bif (iop .lss k b.den.asI a.den.asI).asB then b.den else a.den).asI = if b.den.asI < a.den.asI then b.den.asI else a.den.asI := by
        show (bif decide (b.den.asI < a.den.asI) then b.den else a.den).asI = _
        by_cases hlt : b.den.asI < a.den.asI <;> simp [hlt]
      rw [e] at this
      exact this
    · cases h
theorem max2A_run {x y v : AV} (h : max2A x y = some v) {μ : Mu} {cx cy : Value} (hx : VR μ x cx) (hy : VR μ y cy) (w : World) : ∃ c, (Builtin.max2 cx cy).run P w = .ok c w ∧ VR μ v c := by
  unfold max2A at h
  split at h
  · cases h; cases hx; cases hy; exact ⟨_, rfl, rfl⟩
  · split at h
    · rename_i k a k' b ha hb
      cases h; cases hx.tmI ha; cases hy.tmI hb
      refine ⟨_, rfl, ?_⟩
      have := mkI_VR μ k (iteT (iopT .gtr k b a) b a)
      rw [iteT_den, iopT_den] at this
      have e : (bif (iop .gtr k b.den.asI a.den.asI).asB then b.den else a.den).asI = if b.den.asI > a.den.asI then b.den.asI else a.den.asI := by
        show (bif decide (b.den.asI > a.den.asI) then b.den else a.den).asI = _
        by_cases hlt : b.den.asI > a.den.asI <;> simp [hlt]
      rw [e] at this
      exact this
    · cases h
theorem foldA_run {f : AV → AV → Option AV} {g : Value → Value → Sem Value} {μ : Mu} (hf : ∀ x y v, f x y = some v → ∀ cx cy, VR μ x cx → VR μ y cy → ∀ w, ∃ c, (g cx cy).run P w = .ok c w ∧ VR μ v c) :
    ∀ (l : List AV) (x v : AV), foldA f x l = some v → ∀ (cx : Value) (cl : List Value), VR μ x cx → VRs μ l cl → ∀ w, ∃ c, (cl.foldlM g cx).run P w = .ok c w ∧ VR μ v c
  | [], x, v, h, cx, cl, hx, hl, w => by
    simp [foldA] at h; subst h; cases hl
    exact ⟨cx, rfl, hx⟩
  | y :: l, x, v, h, cx, cl, hx, hl, w => by
    obtain ⟨cy, r, h1, h2, rfl⟩ := hl
    simp only [foldA] at h
    split at h
    · rename_i z hz
      obtain ⟨c, h3, h4⟩ := hf x y z hz cx cy hx h1 w
      obtain ⟨c', h5, h6⟩ := foldA_run hf l z v h c r h4 h2 w
      exact ⟨c', by simp only [List.foldlM_cons, Sem.run_bind, h3, Result.andThen_ok, h5], h6⟩
    · cases h
theorem lenOpA_run {t : TypeId} {x v : AV} {H : Heap} (h : lenOpA P t x H = some v) {ts : Array TypeId} (hts : ts[0]? = some t) {μ : Mu} {w : World} (r : Rep μ H.get w) {cx : Value} (hx : VR μ x cx) (ty : TypeId) :
    ∃ y, (Builtin.len_ ts ty #[cx]).run P w = .ok y w ∧ VR μ v y := by
  unfold Builtin.len_
  simp only [hts, List.getElem?_toArray, List.getElem?_cons_zero]
  unfold lenOpA at h
  split at h
  · rename_i s hu
    cases h; cases hx
    exact ⟨_, by simp only [Sem.run_bind, run_underlying hu, Result.andThen_ok, Sem.run_pure]; rfl, rfl⟩
  · rename_i s hu
    cases h; cases hx
    refine ⟨.int .i64 (s.den.asS.length : Int), by simp only [Sem.run_bind, run_underlying hu, Result.andThen_ok, Sem.run_pure]; rfl, ?_⟩
    have := mkI_VR μ .i64 (lenT s)
    rw [lenT_den] at this
    exact this
  · rename_i n e hu
    cases h
    refine ⟨_, ?_, rfl⟩
    simp only [Sem.run_bind, run_underlying hu, Result.andThen_ok]
    cases cx <;> rfl
  · rename_i a hu
    split at h
    · rename_i n e hua
      cases h
      refine ⟨_, ?_, rfl⟩
      simp only [Sem.run_bind, run_underlying hu, Result.andThen_ok]
      cases cx <;> simp only [Sem.run_bind, run_underlying hua, Result.andThen_ok] <;> rfl
    · cases h
  · rename_i e hu
    cases h; cases hx
    exact ⟨_, by simp only [Sem.run_bind, run_underlying hu, Result.andThen_ok, Sem.run_pure]; rfl, rfl⟩
  · rename_i e id off n cap hu
    cases h
    obtain ⟨p, m, q, rfl⟩ := hx.slice_some
    have hm : m = n := by
      obtain ⟨L, hL, hc⟩ := hx
      cases cap with
      | known q => cases hc; rfl
      | unk k => rcases hc with ⟨_, _, _, _, hc | ⟨h1, _, o, hc⟩⟩ <;> cases hc <;> first | rfl | exact h1.symm
    subst hm
    exact ⟨_, by simp only [Sem.run_bind, run_underlying hu, Result.andThen_ok, Sem.run_pure]; rfl, rfl⟩
  · rename_i e id k off n hu
    cases h
    obtain ⟨L, h1, h2, h3, h4, h5, h6, h7⟩ := hx
    refine ⟨.int .i64 n.den.asI, ?_, mkI_VR μ .i64 n⟩
    have hn : ((n.den.asI.toNat : Nat) : Int) = n.den.asI := by omega
    rcases h7 with rfl | ⟨h0, o, rfl⟩
    · simp only [Sem.run_bind, run_underlying hu, Result.andThen_ok, Sem.run_pure, hn]; rfl
    · simp only [Sem.run_bind, run_underlying hu, Result.andThen_ok, Sem.run_pure, h0]; rfl
  · rename_i k e hu
    cases h; cases hx
    exact ⟨_, by simp only [Sem.run_bind, run_underlying hu, Result.andThen_ok, Sem.run_pure]; rfl, rfl⟩
  · rename_i k e id hu
    split at h
    · rename_i es hg
      cases h
      obtain ⟨L, ents, clock, es', h1, h2, h3, h4⟩ := r.obj _ _ hg
      obtain ⟨L', hL', rfl⟩ := hx
      rw [h1] at hL'; cases hL'
      refine ⟨_, ?_, rfl⟩
      have hlen : ents.size = es.length := by
        have := h4.1.length
        simp at this
        rw [this, h3.length_eq]
      simp only [Sem.run_bind, run_underlying hu, Result.andThen_ok]
      have hgo : (getObj L.b).run P w = .ok (.map ents clock) w := by simp [getObj, Sem.run, h2]
      simp only [hgo, Result.andThen_ok, Sem.run_pure, hlen]
      rfl
    · cases h
  · cases h
end
end Go.Proofs.Ytamibbjpapkfeaa.Ab
