import Derived.Test.YtamibbjpapkfeaaAbS5
namespace Go.Proofs.Ytamibbjpapkfeaa.Ab
set_option linter.unusedSimpArgs false
set_option linter.unusedVariables false
open Go
set_option linter.unusedSectionVars false
variable [Rho]
section
variable {P : Program}

/-! ### structs, arrays and slices that are built -/
theorem foldl_set (off : Nat) : ∀ (l : List Value) (n : Nat) (cs : Array Value), off + n + l.length ≤ cs.size →
    ((l.zipIdx n).foldl (fun cs (x : Value × Nat) => cs.setIfInBounds (off + x.2) x.1) cs).size = cs.size ∧
    ∀ i : Nat, ((l.zipIdx n).foldl (fun cs (x : Value × Nat) => cs.setIfInBounds (off + x.2) x.1) cs)[i]? = if off + n ≤ i ∧ i < off + n + l.length then l[i - (off + n)]? else cs[i]?
  | [], n, cs, _ => by
    refine ⟨rfl, fun i => ?_⟩
    rw [if_neg (by simp)]; rfl
  | v :: l, n, cs, h => by
    simp only [List.length_cons] at h
    simp only [List.zipIdx_cons, List.foldl_cons]
    obtain ⟨h1, h2⟩ := foldl_set off l (n + 1) (cs.setIfInBounds (off + n) v) (by rw [Array.size_setIfInBounds]; omega)
    refine ⟨by rw [h1]; simp, fun i => ?_⟩
    rw [h2 i]
    have hsz : (cs.setIfInBounds (off + n) v).size = cs.size := by simp
    rcases Nat.lt_trichotomy i (off + n) with h3 | h3 | h3
    · rw [if_neg (by omega), if_neg (by omega), Array.getElem?_setIfInBounds_ne (by omega)]
    · subst h3
      rw [if_neg (by omega), if_pos (by simp)]
      rw [Array.getElem?_setIfInBounds]
      simp; omega
    · by_cases h4 : i < off + n + 1 + l.length
      · rw [if_pos (by omega), if_pos (by simp; omega)]
        obtain ⟨j, rfl⟩ : ∃ j, i = off + n + 1 + j := ⟨i - (off + n + 1), by omega⟩
        have e4 : off + n + 1 + j - (off + (n + 1)) = j := by omega
        have e5 : off + n + 1 + j - (off + n) = j + 1 := by omega
        rw [e4, e5, List.getElem?_cons_succ]
      · rw [if_neg (by omega), if_neg (by simp; omega), Array.getElem?_setIfInBounds_ne (by omega)]
theorem VRs.putAt {μ : Mu} {vs new l : List AV} {off : Nat} (h : putAt vs off new = some l) {cs cn : List Value} (h1 : VRs μ vs cs) (h2 : VRs μ new cn) {cl : List Value} (hs : cl.length = cs.length)
    (hg : ∀ i : Nat, cl[i]? = if off ≤ i ∧ i < off + cn.length then cn[i - off]? else cs[i]?) : VRs μ l cl := by
  refine VRs.of_get (by rw [hs, h1.length, putAt_len h]) fun i x y hx hy => ?_
  rw [putAt_get h] at hx
  rw [hg i, h2.length] at hy
  split at hx
  · rename_i hi
    rw [if_pos hi] at hy
    obtain ⟨z, hz, hv⟩ := h2.get _ x hx
    rw [hz] at hy; cases hy; exact hv
  · rename_i hi
    rw [if_neg hi] at hy
    obtain ⟨z, hz, hv⟩ := h1.get _ x hx
    rw [hz] at hy; cases hy; exact hv
/-- Parts that are filled in. -/
def PR (μ : Mu) : List (Nat × AV) → List (Nat × Value) → Prop
  | [], l => l = []
  | p :: l, m => ∃ c r, VR μ p.2 c ∧ PR μ l r ∧ m = (p.1, c) :: r
theorem fillA_run {μ : Mu} {place place' : Nat → Option (Nat × Nat)} (hp : ∀ i x, place i = some x → place' i = some x) : ∀ (parts : List (Nat × AV)) (cells : List AV) (out : List AV), fillA place cells parts = some out →
    ∀ (cp : List (Nat × Value)) (cc : Array Value), PR μ parts cp → VRs μ cells cc.toList → ∃ o, Instr.fill place' cc cp = some o ∧ VRs μ out o.toList
  | [], cells, out, h, cp, cc, hr, hc => by
    simp [fillA] at h; subst h
    cases hr
    exact ⟨cc, rfl, hc⟩
  | (i, v) :: rest, cells, out, h, cp, cc, hr, hc => by
    obtain ⟨c, r, h1, h2, rfl⟩ := hr
    simp only [fillA] at h
    split at h
    · cases h
    · rename_i off size hpl
      split at h
      · cases h
      · rename_i hsz
        split at h
        · rename_i cells' hput
          have hcl := h1.cells.length
          have hcc := hc.length
          obtain ⟨_, hlen⟩ := putAt_eq _ _ _ _ hput
          simp at hcl hcc hsz
          have hcond : (c.cells.size ≠ size || decide (off + c.cells.size > cc.size)) = false := by
            simp; omega
          have hf := foldl_set off c.cells.toList 0 cc (by simp; omega)
          have hfe : c.cells.zipIdx.foldl (fun cs (x : Value × Nat) => cs.setIfInBounds (off + x.2) x.1) cc = (c.cells.toList.zipIdx 0).foldl (fun cs (x : Value × Nat) => cs.setIfInBounds (off + x.2) x.1) cc := by
            rw [← Array.foldl_toList, Array.toList_zipIdx]
          rw [← hfe] at hf
          have hnew := hc.putAt hput h1.cells (cl := (c.cells.zipIdx.foldl (fun cs (x : Value × Nat) => cs.setIfInBounds (off + x.2) x.1) cc).toList) (by simpa using hf.1) (fun i => by simpa using hf.2 i)
          obtain ⟨o, ho, hv⟩ := fillA_run hp rest cells' out h r _ h2 hnew
          refine ⟨o, ?_, hv⟩
          simp only [Instr.fill, hp i _ hpl]
          rw [if_neg (by simpa using hcond)]
          exact ho
        · cases h
theorem placesA_run : ∀ (fs : List Field) (l : List (Nat × Nat)), placesA P fs = some l → ∀ w : World, (fs.mapM (fun f => do pure (f.offset, ← sizeOf f.type) : Field → Sem (Nat × Nat))).run P w = .ok l w
  | [], l, h, w => by simp [placesA] at h; subst h; rfl
  | f :: fs, l, h, w => by
    simp only [placesA] at h
    split at h
    · rename_i n r hn hr
      cases h
      simp only [List.mapM_cons, Sem.run_bind, szOf_run hn, Result.andThen_ok, Sem.run_pure, placesA_run fs r hr w]
    · cases h
theorem zeroCells_run {t : TypeId} {z : List AV} (h : zeroCellsA P t = some z) (μ : Mu) (w : World) : ∃ v, (zeroValue t).run P w = .ok v w ∧ VRs μ z v.cells.toList := by
  unfold zeroCellsA at h
  split at h
  · rename_i v hv
    cases h
    obtain ⟨c, h1, h2⟩ := zeroA_run hv w
    exact ⟨c, h1, (ofV_VR μ c v h2).cells⟩
  · cases h
theorem zeroCells_runs {t : TypeId} {z : List AV} (h : zeroCellsA P t = some z) (μ : Mu) : ∃ v, (∀ w, (zeroValue t).run P w = .ok v w) ∧ VRs μ z v.cells.toList := by
  unfold zeroCellsA at h
  split at h
  · rename_i v hv
    cases h
    obtain ⟨c, h1, h2⟩ := zeroA_runs hv
    exact ⟨c, h1, (ofV_VR μ c v h2).cells⟩
  · cases h
theorem PR.mk {μ : Mu} {fr : FR} {a : Act} (hf : FRel μ fr a.tmps) : ∀ {l : List (Nat × Operand)} {v : List (Nat × AV)}, evalP fr l = some v → PR μ v (l.map fun p => (p.1, a.eval p.2))
  | [], v, h => by simp [evalP] at h; subst h; rfl
  | (i, x) :: l, v, h => by
    simp only [evalP] at h
    split at h
    · rename_i y r h1 h2
      cases h
      exact ⟨_, _, evalA_VR hf h1, PR.mk hf h2, rfl⟩
    · cases h
theorem buildA_run {t : TypeId} {parts : List (Nat × AV)} {v : AV} (h : buildA P t parts = some v) {μ : Mu} {cp : Array (Nat × Value)} (hp : PR μ parts cp.toList) (w : World) :
    ∃ c, (Instr.build t cp).run P w = .ok c w ∧ VR μ v c := by
  unfold buildA at h
  split at h
  · cases h
  · rename_i zero hz
    obtain ⟨z, h1, h2⟩ := zeroCells_run hz μ w
    split at h
    · rename_i fs ht
      split at h
      · rename_i pl hpl
        split at h
        · rename_i c hc
          cases h
          obtain ⟨o, ho, hv⟩ := fillA_run (place' := fun i => pl.toArray[i]?) (fun i x hx => by simpa using hx) parts zero c hc cp.toList z.cells hp h2
          refine ⟨.agg o, ?_, o.toList, hv, by simp⟩
          have hm : (fs.mapM (fun f => do pure (f.offset, ← sizeOf f.type) : Field → Sem (Nat × Nat))).run P w = .ok pl.toArray w := by
            rw [Array.mapM_eq_mapM_toList, Sem.run_map, placesA_run _ _ hpl]
            rfl
          simp only [Instr.build, Sem.run_bind, h1, Result.andThen_ok, run_underlying ht, hm, ho, Sem.run_pure]
        · cases h
      · cases h
    · rename_i n e ht
      split at h
      · rename_i k hk
        split at h
        · rename_i c hc
          cases h
          obtain ⟨o, ho, hv⟩ := fillA_run (place' := fun i => some (i * k, k)) (fun i x hx => hx) parts zero c hc cp.toList z.cells hp h2
          refine ⟨.agg o, ?_, o.toList, hv, by simp⟩
          simp only [Instr.build, Sem.run_bind, h1, Result.andThen_ok, run_underlying ht, szOf_run hk, ho, Sem.run_pure]
        · cases h
      · cases h
    · cases h
theorem repN_VRs {μ : Mu} {z : List AV} {c : List Value} (h : VRs μ z c) : ∀ n, VRs μ (repN n z) (List.flatten (List.replicate n c))
  | 0 => rfl
  | n + 1 => by simpa [repN, List.replicate_succ] using h.append (repN_VRs h n)
theorem get_flatten_rep (c : List Value) (hc : 0 < c.length) : ∀ (n i : Nat), i < n * c.length → (List.flatten (List.replicate n c))[i]? = c[i % c.length]?
  | 0, i, h => by simp at h
  | n + 1, i, h => by
    rw [List.replicate_succ, List.flatten_cons]
    by_cases h1 : i < c.length
    · rw [List.getElem?_append_left h1, Nat.mod_eq_of_lt h1]
    · rw [List.getElem?_append_right (by omega), get_flatten_rep c hc n (i - c.length) (by rw [Nat.succ_mul] at h; omega)]
      congr 1
      rw [← Nat.mod_eq_sub_mod (by omega)]
/-- The cells that the model makes for n elements that are zero. -/
theorem made_eq (z : Array Value) (k n : Nat) (hk : z.size = k) (h0 : 0 < k) : ((Array.range (n * k)).map (fun i => z[i % z.size]!)).toList = List.flatten (List.replicate n z.toList) := by
  apply List.ext_getElem?
  intro i
  have hl : (List.flatten (List.replicate n z.toList)).length = n * k := by simp [hk]
  by_cases h : i < n * k
  · have hm : i % z.size < z.size := Nat.mod_lt _ (by omega)
    rw [get_flatten_rep z.toList (by simp; omega) n i (by simpa [hk] using h)]
    simp [h, hm]
  · rw [List.getElem?_eq_none (by simp; omega), List.getElem?_eq_none (by omega)]
theorem zerosA_run {e : TypeId} {n : Nat} {z : List AV} (h : zerosA P e n = some z) (μ : Mu) (w : World) : ∃ v k, (zeroValue e).run P w = .ok v w ∧ szOf P e = some k ∧ v.cells.size = k ∧ 0 < k ∧ VRs μ z (List.flatten (List.replicate n v.cells.toList)) := by
  unfold zerosA at h
  split at h
  · rename_i zc k hz hk
    split at h
    · rename_i hc
      cases h
      obtain ⟨v, h1, h2⟩ := zeroCells_run hz μ w
      have := h2.length
      simp at this
      exact ⟨v, k, h1, hk, by omega, hc.2, repN_VRs h2 n⟩
    · cases h
  · cases h
theorem buildSliceA_run {t : TypeId} {len : Nat} {parts : List (Nat × AV)} {v : AV} {H H' : Heap} (h : buildSliceA P t len parts H = some (v, H')) {μ : Mu} {w : World} (r : Rep μ H.get w) (d : Dom μ H.next) {cp : Array (Nat × Value)} (hp : PR μ parts cp.toList) :
    ∃ μ' c w', (Instr.buildSlice t len cp).run P w = .ok c w' ∧ VR μ' v c ∧ Evo μ H.get H.next w μ' H'.get H'.next w' := by
  unfold buildSliceA at h
  split at h
  · rename_i e ht
    split at h
    · rename_i k z hk hz
      split at h
      · rename_i hsmall
        split at h
        · rename_i c hc
          split at h
          · rename_i ha
            cases h
            obtain ⟨zv, k', h1, h2, h3, h4, h5⟩ := zerosA_run hz μ w
            rw [hk] at h2; cases h2
            rw [← made_eq zv.cells k len h3 h4] at h5
            obtain ⟨o, ho, hv⟩ := fillA_run (place' := fun i => some (i * k, k)) (fun i x hx => hx) parts z c hc cp.toList _ hp h5
            have he := new_cells r d hv ha e (flats c)
            refine ⟨_, .slice (some ⟨w.heap.size, 0, none⟩) len len, _, ?_, ⟨⟨w.heap.size, 0, c.length, 1, c.length⟩, by simp [setMu], rfl⟩, he⟩
            have hn : ¬ len * k > 2 ^ 24 := by omega
            simp only [Instr.buildSlice, Sem.run_bind, run_underlying ht, Result.andThen_ok, szOf_run hk, if_neg hn]
            by_cases h0 : len * k = 0
            · have hl0 : len = 0 := by
                rcases Nat.mul_eq_zero.1 h0 with h | h
                · exact h
                · omega
              subst hl0
              simp only [Nat.zero_mul, if_true, Sem.run_pure, Result.andThen_ok]
              have e0 : (Array.map (fun i => zv.cells[i % zv.cells.size]!) (Array.range (0 * k))) = #[] := by simp
              rw [e0] at ho
              have e1 : ∀ g : Nat → Value, Array.map g (Array.range 0) = #[] := fun g => Array.eq_empty_of_size_eq_zero (by simp)
              simp [ho, newRow, e1]
            · simp only [if_neg h0, Sem.run_bind, h1, Result.andThen_ok, Sem.run_pure, ho]
              simp [newRow]
          · cases h
        · cases h
      · cases h
    · cases h
  · cases h
end
end Go.Proofs.Ytamibbjpapkfeaa.Ab
