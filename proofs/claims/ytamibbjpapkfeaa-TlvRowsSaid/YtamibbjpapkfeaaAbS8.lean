import Derived.Test.YtamibbjpapkfeaaAbS7
namespace Go.Proofs.Ytamibbjpapkfeaa.Ab
set_option linter.unusedSimpArgs false
set_option linter.unusedVariables false
open Go
set_option linter.unusedSectionVars false
variable [Rho]
section
variable {P : Program}

/-! ### append -/
theorem growBy_le (N : Nat) : ∀ r c, Builtin.growBy N r c ≤ max c (N + (N + 768) / 4)
  | 0, c => by simp [Builtin.growBy]; omega
  | r + 1, c => by
    simp only [Builtin.growBy]
    split
    · omega
    · have := growBy_le N r (c + (c + 768) / 4)
      omega
theorem next_le (N old : Nat) (h : old < N) : Builtin.nextslicecap N old ≤ 2 * N + 768 := by
  unfold Builtin.nextslicecap
  split
  · omega
  · split
    · omega
    · have := growBy_le N 4 old
      omega
theorem Rep.draw {μ : Mu} {h : Nat → Option AObj} {w w' : World} (r : Rep μ h w) (e : w'.heap = w.heap) : Rep μ h w' :=
  ⟨fun id o ho => (r.obj id o ho).keep (Ext.refl μ) fun l _ => by rw [e], r.inj⟩
theorem zeroCells_eq (z : Array Value) (n k : Nat) (hk : z.size = k) (h0 : 0 < k) : (Builtin.zeroCells z n).toList = List.flatten (List.replicate n z.toList) := by
  have := made_eq z k n hk h0
  unfold Builtin.zeroCells
  rw [hk]
  rw [hk] at this
  exact this
/-- What the model does with 'append', the types being what they are. -/
structure AT (P : Program) (ts : Array TypeId) (e : TypeId) (k by' : Nat) (z : Value) : Prop where
  slice : ∃ t, ts[0]? = some t ∧ P.underlying t = some (.slice e)
  other : ∃ t d, ts[1]? = some t ∧ P.underlying t = some d ∧ ∀ k, d ≠ .int k
  size : szOf P e = some k
  bytes : ∃ i, P.info? e = some i ∧ i.bytes = by'
  zero : ∀ w, (zeroValue e).run P w = .ok z w
  zsize : z.cells.size = k
  small : by' ≤ 1024
  pos : 0 < k
theorem append_in {ts : Array TypeId} {e : TypeId} {k by' : Nat} {z : Value} (a : AT P ts e k by' z) (ty : TypeId) (base : Option Addr) (len cap m : Nat) (x : Value) (w : World) (new : List Value)
    (hl : (Builtin.lenOf x).run P w = .ok m w) (hn : (Builtin.firstCells k m x).run P w = .ok new.toArray w) (hc : len + m ≤ cap) (w' : World)
    (hst : match base with | some p => (storeCells (p.add (len * k)) new).run P w = .ok () w' | none => w' = w) :
    (Builtin.append_ ts ty #[.slice base len cap, x]).run P w = .ok (.slice base (len + m) cap) w' := by
  obtain ⟨t, ht, hu⟩ := a.slice
  obtain ⟨t', d, ht', hu', hd⟩ := a.other
  unfold Builtin.append_
  simp only [ht, ht', List.getElem?_toArray, List.getElem?_cons_zero, List.getElem?_cons_succ]
  simp only [Sem.run_bind, run_underlying hu, run_underlying hu', Result.andThen_ok, szOf_run a.size, Sem.run_pure]
  cases d
  case int => exact absurd rfl (hd _)
  all_goals
    simp only [Bool.false_eq_true, if_false, hl, Bool.not_false, if_true, if_pos hc, hn, Sem.run_bind, Result.andThen_ok, Sem.run_pure]
    cases base with
    | none => subst hst; rfl
    | some p =>
      simp only at hst
      simp only [Sem.run_bind, hst, Result.andThen_ok, Sem.run_pure]
theorem append_out {ts : Array TypeId} {e : TypeId} {k by' : Nat} {z : Value} (a : AT P ts e k by' z) (ty : TypeId) (base : Option Addr) (len cap m : Nat) (x : Value) (w : World) (old new : List Value)
    (hl : (Builtin.lenOf x).run P w = .ok m w) (hn : ∀ w' : World, w'.heap = w.heap → (Builtin.firstCells k m x).run P w' = .ok new.toArray w') (ho : ∀ w' : World, w'.heap = w.heap → (Builtin.firstCells k len (.slice base len cap)).run P w' = .ok old.toArray w')
    (hc : ¬ len + m ≤ cap) (hm : len + m ≤ 4294967296) :
    ∃ nc, len + m ≤ nc ∧ (Builtin.append_ ts ty #[.slice base len cap, x]).run P w =
      .ok (.slice (some ⟨w.heap.size, 0, none⟩) (len + m) nc) { w with heap := w.heap.push (.cells ((old ++ new ++ List.flatten (List.replicate (nc - (len + m)) z.cells.toList)).toArray) e), drawn := w.drawn + 1 } := by
  obtain ⟨t, ht, hu⟩ := a.slice
  obtain ⟨t', d, ht', hu', hd⟩ := a.other
  obtain ⟨i, hi, hby⟩ := a.bytes
  have hsm := a.small
  have hw : ({ w with drawn := w.drawn + 1 } : World).heap = w.heap := rfl
  have hti : ∀ w, (typeInfo e).run P w = .ok i w := fun w => run_typeInfo w hi
  generalize hnc : (Question.appendCap (len + m) cap e).cut (w.tape w.drawn (Question.appendCap (len + m) cap e)) = nc
  refine ⟨nc, by rw [← hnc]; exact cut_ge _ _ _ _, ?_⟩
  have h1 : ¬ (((len + m : Nat) : Int) > IntKind.i64.max ∧ (False ∨ i.bytes = 0)) := by
    intro h
    have := h.1
    simp [IntKind.max, IntKind.signed, IntKind.bits] at this
    omega
  have h2 : ¬ Builtin.nextslicecap (len + m) cap * i.bytes > 2 ^ 48 := by
    have := next_le (len + m) cap (by omega)
    have h3 : Builtin.nextslicecap (len + m) cap * i.bytes ≤ (2 * (len + m) + 768) * 1024 := Nat.mul_le_mul this (by omega)
    omega
  have hz := zeroCells_eq z.cells (nc - (len + m)) k a.zsize a.pos
  have hz' : Builtin.zeroCells z.cells (nc - (len + m)) = (List.flatten (List.replicate (nc - (len + m)) z.cells.toList)).toArray := by
    apply Array.ext'; rw [hz]
  unfold Builtin.append_
  simp only [ht, ht', List.getElem?_toArray, List.getElem?_cons_zero, List.getElem?_cons_succ]
  simp only [Sem.run_bind, run_underlying hu, run_underlying hu', Result.andThen_ok, szOf_run a.size, Sem.run_pure]
  cases d
  case int => exact absurd rfl (hd _)
  all_goals
    simp only [Bool.false_eq_true, if_false, hl, Bool.not_false, if_true, if_neg hc, Sem.run_ite, Sem.run_bind, Result.andThen_ok, Sem.run_pure, hti, if_neg h1, if_neg h2]
    simp only [run_choose, Question.forced, Bool.false_eq_true, if_false, Result.andThen_ok, hnc, run_askRoom]
    rw [ho _ hw]
    simp only [Result.andThen_ok]
    rw [hn _ hw]
    simp only [Result.andThen_ok, a.zero, newRow, Sem.run_bind, run_newObj, Sem.run_pure, hz']
    simp
theorem srcA_len {k n : Nat} {x : AV} {H : Heap} {xs : List AV} (h : srcA k x n H = some xs) {m : Nat} (hm : lenA x = some m) (hn : n ≤ m) : xs.length = n * k := by
  unfold srcA at h
  split at h
  · cases h; simp [lenA] at hm; have : n = 0 := by omega
    subst this; simp
  · split at h
    · obtain ⟨h1, h2⟩ := cellsAt_eq h
      rw [h1]; simp
      rcases h2 with h2 | h2 <;> omega
    · cases h
  · rename_i s
    split at h
    · rename_i hk
      cases h
      simp [lenA] at hm
      simp [ofOcts, Nat.eq_of_beq_eq_true hk]; omega
    · cases h
  · cases h
theorem firstCells_heap {w w' : World} (e : w'.heap = w.heap) {μ : Mu} {h : Nat → Option AObj} (r : Rep μ h w) : Rep μ h w' := r.draw e
/-- 'append', whatever the capacity. -/
theorem appendA_run {t : TypeId} {s x v : AV} {H H' : Heap} (h : appendA P t s x H = some (v, H')) {ts : Array TypeId} (hts : ts[0]? = some t) {t' : TypeId} {d' : TypeDesc} (ht' : ts[1]? = some t') (hd' : P.underlying t' = some d') (hni : ∀ k, d' ≠ .int k)
    {μ : Mu} {w : World} (r : Rep μ H.get w) (d : Dom μ H.next) {cs cx : Value} (hs : VR μ s cs) (hx : VR μ x cx) (ty : TypeId) :
    ∃ μ' y w', (Builtin.append_ ts ty #[cs, cx]).run P w = .ok y w' ∧ VR μ' v y ∧ Evo μ H.get H.next w μ' H'.get H'.next w' := by
  unfold appendA at h
  split at h
  case h_2 => cases h
  rename_i e hu
  split at h
  case h_2 => cases h
  rename_i k' by' z m hk hby hz hm
  split at h
  case isFalse => cases h
  rename_i hc
  obtain ⟨hc1, hc2, hc3⟩ := hc
  split at h
  case h_2 => cases h
  rename_i new hnew
  split at h
  case isFalse => cases h
  rename_i hcells
  obtain ⟨zv, hz1, hz2⟩ := zeroCells_runs hz μ
  have hzs : zv.cells.size = k' + 1 := by
    have := hz2.length; simp at this; omega
  have at_ : AT P ts e (k' + 1) by' zv := ⟨⟨t, hts, hu⟩, ⟨t', d', ht', hd', hni⟩, hk, bytesOf_run hby, hz1, hzs, hc1, Nat.succ_pos _⟩
  have hlen := lenA_run (P := P) hm hx w
  obtain ⟨cn, hn1, hn2⟩ := srcA_run (P := P) hnew (Nat.succ_pos _) r hx hm (Nat.le_refl _)
  have hcn := hn2.length
  have hrest : ∀ nc need (l : List Value), l.length = need * (k' + 1) → need ≤ nc → (l ++ List.flatten (List.replicate (nc - need) zv.cells.toList)).length = nc * (k' + 1) := fun nc need l hl hle => by
    rw [List.length_append, hl]
    have : (List.flatten (List.replicate (nc - need) zv.cells.toList)).length = (nc - need) * (k' + 1) := by simp [hzs]
    rw [this, ← Nat.add_mul]; congr 1; omega
  /- a new block -/
  have grow : ∀ (G : Heap) (n0 : Nat), Rep μ G.get w → Dom μ G.next → ∀ (cold : List Value) (old : List AV) (len cap : Nat) (base : Option Addr) (lf : Bool), VRs μ old cold → allCells old = true → old.length = len * (k' + 1) → new.length = m * (k' + 1) →
      (∀ w' : World, w'.heap = w.heap → (Builtin.firstCells (k' + 1) len (.slice base len cap)).run P w' = .ok cold.toArray w') → ¬ len + m ≤ cap → len + m ≤ 4294967296 →
      ∃ μ' y w', (Builtin.append_ ts ty #[.slice base len cap, cx]).run P w = .ok y w' ∧ VR μ' (.slice G.next 0 (len + m) (.unk (k' + 1))) y ∧ Evo μ G.get G.next w μ' (G.new (.row (old ++ new) true lf)).get (G.new (.row (old ++ new) true lf)).next w' := by
    intro G n0 rG dG cold old len cap base lf hv1 ha1 hl1 hl2 hfc hcap hsm
    obtain ⟨nc, hnc, hrun⟩ := append_out at_ ty base len cap m cx w cold cn hlen hn1 hfc hcap hsm
    have hl3 : (old ++ new).length = (len + m) * (k' + 1) := by simp [hl1, hl2, Nat.add_mul]
    have hl4 : (cold ++ cn).length = (len + m) * (k' + 1) := by have := hv1.length; simp; rw [Nat.add_mul]; omega
    refine ⟨setMu μ G.next ⟨w.heap.size, 0, nc, k' + 1, (len + m) * (k' + 1)⟩, _, _, hrun, ⟨⟨w.heap.size, 0, nc, k' + 1, (len + m) * (k' + 1)⟩, by simp [setMu], Nat.succ_pos _, rfl, by simp, by simp, .inl (by simp)⟩, ?_⟩
    refine evo_new (w' := { w with heap := w.heap.push (.cells ((cold ++ cn ++ List.flatten (List.replicate (nc - (len + m)) zv.cells.toList)).toArray) e), drawn := w.drawn + 1 }) rG dG (obj := .cells ((cold ++ cn ++ List.flatten (List.replicate (nc - (len + m)) zv.cells.toList)).toArray) e) ⟨rfl, rfl, rfl, rfl⟩ _
      ⟨w.heap.size, 0, nc, k' + 1, (len + m) * (k' + 1)⟩ rfl fun μ' he hm' => ?_
    refine ⟨_, (cold ++ cn ++ List.flatten (List.replicate (nc - (len + m)) zv.cells.toList)).toArray, e, 0, 0, hm', by simp, hl3, Nat.mul_le_mul_right _ hnc, ?_, fun _ => .inr (Nat.le_refl _), fun i y hy => ?_⟩
    · have := hrest nc (len + m) (cold ++ cn) hl4 hnc
      simp only [List.size_toArray]
      omega
    · obtain ⟨c, hc', hv⟩ := (hv1.append hn2).get i y hy
      refine ⟨?_, c, ?_, hv.ext he⟩
      · have h5 : y ∈ old ++ new := List.mem_of_getElem? hy
        simp only [allCells, List.all_eq_true] at ha1 hcells
        rcases List.mem_append.1 h5 with h6 | h6
        · exact ha1 y h6
        · exact hcells y h6
      · have hlt := (List.getElem?_eq_some_iff.1 hc').1
        simp only [Nat.zero_add, List.getElem?_toArray]
        rw [List.getElem?_append_left hlt]; exact hc'
  have hl2 := srcA_len hnew hm (Nat.le_refl _)
  split at h
  · -- nil
    cases hs
    split at h
    · rename_i m0
      cases h; subst m0
      have : new = [] := List.eq_nil_of_length_eq_zero (by omega)
      subst this
      cases hn2
      exact ⟨μ, _, w, append_in at_ ty none 0 0 0 cx w [] hlen (hn1 w rfl) (Nat.le_refl _) w rfl, rfl, Evo.refl r d⟩
    · split at h
      · rename_i m0 hsm
        cases h
        obtain ⟨μ', y, w', p1, p2, p3⟩ := grow H 0 r d [] [] 0 0 none (flats new) rfl rfl (by simp) hl2 (fun w' _ => by simp [Builtin.firstCells]) (by omega) (by unfold small at hsm; omega)
        refine ⟨μ', y, w', p1, ?_, ?_⟩
        · simpa using p2
        · simpa using p3
      · cases h
  · -- a known capacity
    rename_i id off len c
    split at h
    · rename_i vs own lf hg
      obtain ⟨L, c0, e0, lo, hi, h1, h2, h3, h4, h5, h6, h7⟩ := rep_row r hg
      obtain ⟨L', hL', rfl⟩ := hs
      rw [h1] at hL'; cases hL'
      split at h
      · rename_i hle
        split at h
        · rename_i ho
          subst ho
          split at h
          · rename_i v' hp
            cases h
            obtain ⟨w', q1, q2⟩ := store_cells (P := P) r d hg hp hn2 hcells (lf && flats new) h1
            refine ⟨μ, _, w', append_in at_ ty _ len c m cx w cn hlen (hn1 w rfl) hle w' ?_, ⟨L, h1, rfl⟩, q2⟩
            simp only [add_addr]
            rw [Nat.add_assoc]
            exact q1
          · cases h
        · split at h
          · rename_i m0
            cases h; subst m0
            have : new = [] := List.eq_nil_of_length_eq_zero (by omega)
            subst this
            cases hn2
            exact ⟨μ, _, w, append_in at_ ty _ len c 0 cx w [] hlen (hn1 w rfl) hle w (by simp [storeCells]), ⟨L, h1, rfl⟩, Evo.refl r d⟩
          · cases h
      · rename_i hle
        split at h
        · rename_i hsm
          split at h
          · rename_i old hold
            cases h
            obtain ⟨co, k1, k2, k3, k4⟩ := rep_cells h7 hold
            have hol : old.length = len * (k' + 1) := by rw [← k2, k1.length]
            exact grow H 0 r d co old len c (some ⟨L.b, L.s + off, none⟩) (lf && flats new) k1 k4 hol hl2
              (fun w' ew => run_loadCells L.b (L.s + off) (len * (k' + 1)) co k2 (fun j y hj => by rw [cell_row (w := w') (by rw [ew]; exact h2)]; exact k3 j y hj)) hle (by unfold small at hsm; omega)
          · cases h
        · cases h
    · cases h
  · -- a capacity that is not told
    rename_i id off len k
    split at h
    · rename_i vs own lf hg
      split at h
      · rename_i hkk
        subst hkk
        obtain ⟨L, c0, e0, lo, hi, h1, h2, h3, h4, h5, h6, h7⟩ := rep_row r hg
        obtain ⟨L', hL', q1, q2, q3, q4, q5⟩ := hs
        rw [h1] at hL'; cases hL'
        obtain ⟨o, rfl⟩ : ∃ o, off = o * (k' + 1) := ⟨off / (k' + 1), by rw [Nat.div_mul_cancel (Nat.dvd_of_mod_eq_zero q3)]⟩
        have hdo : o * (k' + 1) / (k' + 1) = o := Nat.mul_div_cancel _ q1
        rw [hdo] at q5
        rw [q2] at h4 h5
        split at h
        · rename_i m0
          cases h; subst m0
          have : new = [] := List.eq_nil_of_length_eq_zero (by omega)
          subst this
          cases hn2
          rcases q5 with rfl | ⟨rfl, q6, o', rfl⟩
          · have hle : len + 0 ≤ L.cap - o := by
              have : (o + len) * (k' + 1) ≤ L.cap * (k' + 1) := by rw [Nat.add_mul]; omega
              have := Nat.le_of_mul_le_mul_right this q1
              omega
            exact ⟨μ, _, w, append_in at_ ty _ len (L.cap - o) 0 cx w [] hlen (hn1 w rfl) hle w (by simp [storeCells]), ⟨L, h1, q1, q2, q3, q4, .inl (by rw [hdo]; rfl)⟩, Evo.refl r d⟩
          · exact ⟨μ, _, w, append_in at_ ty _ 0 0 0 cx w [] hlen (hn1 w rfl) (Nat.le_refl _) w (by simp [storeCells]), ⟨L, h1, q1, q2, q3, q4, .inr ⟨rfl, q6, o', rfl⟩⟩, Evo.refl r d⟩
        · rename_i m0
          split at h
          · rename_i hos
            obtain ⟨ho, hsm⟩ := hos
            subst ho
            have hmk : k' + 1 ≤ m * (k' + 1) := Nat.le_mul_of_pos_left _ (Nat.pos_of_ne_zero m0)
            have hlm : (len + m) * (k' + 1) = len * (k' + 1) + m * (k' + 1) := Nat.add_mul _ _ _
            split at h
            · rename_i hin
              split at h
              · rename_i v' hp
                cases h
                rcases q5 with rfl | ⟨rfl, q6, o', rfl⟩
                · have hle : len + m ≤ L.cap - o := by
                    have : (o + (len + m)) * (k' + 1) ≤ L.cap * (k' + 1) := by rw [Nat.add_mul]; omega
                    have := Nat.le_of_mul_le_mul_right this q1
                    omega
                  obtain ⟨w', p1, p2⟩ := store_cells (P := P) r d hg hp hn2 hcells (lf && flats new) h1
                  refine ⟨μ, _, w', append_in at_ ty _ len (L.cap - o) m cx w cn hlen (hn1 w rfl) hle w' ?_, ⟨L, h1, q1, q2, q3, by omega, .inl (by rw [hdo])⟩, p2⟩
                  simp only [add_addr]
                  rw [Nat.add_assoc]
                  exact p1
                · omega
              · cases h
            · rename_i hin
              split at h
              · rename_i old hold
                cases h
                obtain ⟨co, k1, k2, k3, k4⟩ := rep_cells h7 hold
                have hol : old.length = len * (k' + 1) := by rw [← k2, k1.length]
                have growit : ∀ (cap : Nat) (a : Option Addr), ¬ len + m ≤ cap → (∀ w' : World, w'.heap = w.heap → (Builtin.firstCells (k' + 1) len (.slice a len cap)).run P w' = .ok co.toArray w') →
                    ∃ μ' y w', (Builtin.append_ ts ty #[.slice a len cap, cx]).run P w = .ok y w' ∧ VR μ' (.slice H.next 0 (len + m) (.unk (k' + 1))) y ∧ Evo μ H.get H.next w μ' ((H.kill id).new (.row (old ++ new) true (lf && flats new))).get ((H.kill id).new (.row (old ++ new) true (lf && flats new))).next w' := by
                  intro cap a hcap hfc
                  have hk := evo_kill r d id
                  obtain ⟨μ', y, w', p1, p2, p3⟩ := grow (H.kill id) 0 hk.rep hk.dom co old len cap a (lf && flats new) k1 k4 hol hl2 hfc hcap (by unfold small at hsm; omega)
                  exact ⟨μ', y, w', p1, p2, hk.trans p3⟩
                rcases q5 with rfl | ⟨rfl, q6, o', rfl⟩
                · by_cases hle : len + m ≤ L.cap - o
                  · have hroom : L.s + o * (k' + 1) + (L.cap - o) * (k' + 1) ≤ c0.size := by
                      have : (o + (L.cap - o)) * (k' + 1) = o * (k' + 1) + (L.cap - o) * (k' + 1) := Nat.add_mul _ _ _
                      have e2 : o + (L.cap - o) = L.cap := by
                        have : len + m ≠ 0 := by omega
                        omega
                      rw [e2] at this
                      omega
                    have hfit : L.s + o * (k' + 1) + len * (k' + 1) + cn.length ≤ c0.size := by
                      have : (len + m) * (k' + 1) ≤ (L.cap - o) * (k' + 1) := Nat.mul_le_mul_right _ hle
                      omega
                    have hst := run_storeCells (P := P) L.b (L.s + o * (k' + 1) + len * (k' + 1)) e0 lo hi cn 0 w c0 h2 (by omega) (h6 rfl) (hn2.cellsV hcells)
                    obtain ⟨c', s1, s2, s3⟩ := setRow_at e0 (lo, hi) cn w L.b (L.s + o * (k' + 1) + len * (k' + 1)) c0 h2 hfit
                    obtain ⟨m1, m2, m3, m4⟩ := setRow_rest cn w L.b (L.s + o * (k' + 1) + len * (k' + 1))
                    refine ⟨setMu μ H.next ⟨L.b, L.s + o * (k' + 1), L.cap - o, k' + 1, (len + m) * (k' + 1)⟩, _, _, append_in at_ ty _ len (L.cap - o) m cx w cn hlen (hn1 w rfl) hle _ (by simp only [add_addr]; exact hst),
                      ⟨⟨L.b, L.s + o * (k' + 1), L.cap - o, k' + 1, (len + m) * (k' + 1)⟩, (by show setMu μ H.next _ H.next = _; simp [setMu]), Nat.succ_pos _, rfl, by simp, by simp, .inl (by simp)⟩, ?_⟩
                    refine evo_move r d hg rfl h1 (l' := ⟨L.b, L.s + o * (k' + 1), L.cap - o, k' + 1, (len + m) * (k' + 1)⟩) rfl (fun b hb => setRow_ne cn w L.b _ b hb) m1 m2 m3 m4 fun μ' he hm' => ?_
                    refine ⟨_, c', e0, lo, hi, hm', s1, by simp [hol, hl2, hlm], Nat.mul_le_mul_right _ hle, by rw [s2]; exact hroom, fun _ => by rw [s2]; exact h6 rfl, fun i y hy => ?_⟩
                    rw [s3]
                    by_cases hi' : i < old.length
                    · rw [List.getElem?_append_left hi'] at hy
                      rw [if_neg (by simp only []; omega)]
                      obtain ⟨z', hz', hv'⟩ := k1.get i y hy
                      refine ⟨?_, z', k3 i z' hz', hv'.ext he⟩
                      simp only [allCells, List.all_eq_true] at k4
                      exact k4 y (List.mem_of_getElem? hy)
                    · have hlt := (List.getElem?_eq_some_iff.1 hy).1
                      rw [List.getElem?_append_right (by omega)] at hy
                      rw [List.length_append] at hlt
                      rw [if_pos (by simp only []; omega)]
                      obtain ⟨z', hz', hv'⟩ := hn2.get _ y hy
                      refine ⟨?_, z', ?_, hv'.ext he⟩
                      · simp only [allCells, List.all_eq_true] at hcells
                        exact hcells y (List.mem_of_getElem? hy)
                      · rw [← hz']; congr 1; simp only []; omega
                  · exact growit _ _ hle (fun w' ew => run_loadCells L.b (L.s + o * (k' + 1)) (len * (k' + 1)) co k2 (fun j y hj => by rw [cell_row (w := w') (by rw [ew]; exact h2)]; exact k3 j y hj))
                · have : co = [] := List.eq_nil_of_length_eq_zero (by rw [k2]; simp)
                  subst this
                  exact growit 0 _ (by omega) (fun w' _ => by simp [Builtin.firstCells, run_loadCells_zero])
              · cases h
          · cases h
      · cases h
    · cases h
  · cases h
end
end Go.Proofs.Ytamibbjpapkfeaa.Ab
