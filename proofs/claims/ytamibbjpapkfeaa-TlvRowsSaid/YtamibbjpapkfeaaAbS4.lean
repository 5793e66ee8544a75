import Derived.Test.YtamibbjpapkfeaaAbS3
namespace Go.Proofs.Ytamibbjpapkfeaa.Ab
set_option linter.unusedSimpArgs false
set_option linter.unusedVariables false
open Go
set_option linter.unusedSectionVars false
variable [Rho]
section
variable {P : Program}

/-! ### memory -/
/-- An operation that only reads: it leaves a value. -/
def Rd (s : World → Result Value) (μ : Mu) (v : AV) (w : World) : Prop := ∃ c, s w = .ok c w ∧ VR μ v c

theorem rep_row {μ : Mu} {h : Nat → Option AObj} {w : World} (r : Rep μ h w) {id : Nat} {vs : List AV} {own lf : Bool} (hg : h id = some (.row vs own lf)) :
    ∃ l c e lo hi, μ id = some l ∧ w.heap[l.b]? = some (.cells c e (lo, hi)) ∧ vs.length = l.ext ∧ l.ext ≤ l.cap * l.k ∧ l.s + l.cap * l.k ≤ c.size ∧
      (own = true → c.size ≤ lo ∨ hi ≤ lo) ∧ (∀ i x, vs[i]? = some x → isCell x = true ∧ ∃ y, c[l.s + i]? = some y ∧ VR μ x y) := r.obj _ _ hg
/-- The cells of a row from one on. -/
theorem rep_cells {μ : Mu} {l : Loc} {c : Array Value} {vs : List AV} (h : ∀ i x, vs[i]? = some x → isCell x = true ∧ ∃ y, c[l.s + i]? = some y ∧ VR μ x y) {off n : Nat} {xs : List AV} (hx : cellsAt vs off n = some xs) :
    ∃ cs : List Value, VRs μ xs cs ∧ cs.length = n ∧ (∀ j y, cs[j]? = some y → c[l.s + off + j]? = some y) ∧ allCells xs = true := by
  obtain ⟨h1, h2⟩ := cellsAt_eq hx
  rcases h2 with h2 | h2
  · subst h2
    simp at h1; subst h1
    exact ⟨[], rfl, rfl, by simp, rfl⟩
  · have hlen : xs.length = n := by rw [h1]; simp; omega
    have hget : ∀ j x, xs[j]? = some x → j < n ∧ vs[off + j]? = some x := fun j x hj => by
      have hlt : j < xs.length := (List.getElem?_eq_some_iff.1 hj).1
      rw [h1, List.getElem?_take, if_pos (by omega), List.getElem?_drop] at hj
      exact ⟨by omega, hj⟩
    have hcs : ∀ j, j < n → ∃ y, c[l.s + off + j]? = some y := fun j hj => by
      obtain ⟨x, hx'⟩ : ∃ x, xs[j]? = some x := ⟨_, List.getElem?_eq_getElem (by omega)⟩
      obtain ⟨_, y, h3, _⟩ := h _ _ (hget j x hx').2
      exact ⟨y, by rw [← h3]; congr 1; omega⟩
    refine ⟨(c.toList.drop (l.s + off)).take n, VRs.of_get ?_ ?_, ?_, ?_, ?_⟩
    · simp [hlen]
      rcases Nat.lt_or_ge 0 n with h0 | h0
      · obtain ⟨y, hy⟩ := hcs (n - 1) (by omega)
        have := (Array.getElem?_eq_some_iff.1 hy).1
        omega
      · omega
    · intro i x y hxi hy
      obtain ⟨h3, h4⟩ := hget i x hxi
      obtain ⟨_, z, h5, h6⟩ := h _ _ h4
      rw [List.getElem?_take, if_pos h3, List.getElem?_drop, Array.getElem?_toList] at hy
      have : l.s + (off + i) = l.s + off + i := by omega
      rw [this, hy] at h5; cases h5; exact h6
    · simp
      rcases Nat.lt_or_ge 0 n with h0 | h0
      · obtain ⟨y, hy⟩ := hcs (n - 1) (by omega)
        have := (Array.getElem?_eq_some_iff.1 hy).1
        omega
      · omega
    · intro j y hy
      rw [List.getElem?_take] at hy
      split at hy
      · rw [List.getElem?_drop, Array.getElem?_toList] at hy; exact hy
      · cases hy
    · simp only [allCells, List.all_eq_true]
      intro x hx'
      obtain ⟨j, hj⟩ := List.mem_iff_getElem?.1 hx'
      exact (h _ _ (hget j x hj).2).1
/-- The cells of an element of a row that is not told. -/
def elemA : AObj → Tm → Option (List AV)
  | .bytes l _, i => some [.sint .u8 (.at l i)]
  | .seq sh l _, i => some (symCells l i sh 0)
  | _, _ => none
theorem symCells_get (t i : Tm) : ∀ (sh : List Kd) (n j : Nat), (symCells t i sh n)[j]? = (sh[j]?).map fun kd => symCell t i kd (n + j)
  | [], _, _ => by simp [symCells]
  | k :: sh, n, 0 => by simp [symCells]
  | k :: sh, n, j + 1 => by
    simp only [symCells, List.getElem?_cons_succ, symCells_get t i sh (n + 1) j]
    congr 1; funext kd; congr 1; omega
theorem symCells_len (t i : Tm) : ∀ (sh : List Kd) (n : Nat), (symCells t i sh n).length = sh.length
  | [], _ => rfl
  | k :: sh, n => by simp [symCells, symCells_len t i sh (n + 1)]
theorem symCell_VR (μ : Mu) (t i : Tm) (kd : Kd) (j : Nat) : VR μ (symCell t i kd j) (kdV kd ((t.den.asL.getD i.den.asI.toNat []).getD j (.dI 0))) := by
  cases kd <;> rfl
theorem rep_elem {μ : Mu} {h : Nat → Option AObj} {w : World} (r : Rep μ h w) {id : Nat} {o : AObj} (hg : h id = some o) {i : Tm} {cs : List AV} (he : elemA o i = some cs) {l : Loc} (hl : μ id = some l) (hi : i.den.asI.toNat * l.k + l.k ≤ l.ext) :
    ∃ (c : Array Value) (e : TypeId) (fz : Nat × Nat) (vs : List Value), w.heap[l.b]? = some (.cells c e fz) ∧ VRs μ cs vs ∧ cs.length = l.k ∧ ∀ j y, vs[j]? = some y → c[l.s + (i.den.asI.toNat * l.k + j)]? = some y := by
  cases o with
  | row vs own lf => simp [elemA] at he
  | map es => simp [elemA] at he
  | bytes t own =>
    simp only [elemA] at he; cases he
    obtain ⟨l', c, e, lo, hi', h1, h2, ⟨h3, h3'⟩, h4, h5, h6, h7⟩ := r.obj _ _ hg
    rw [hl] at h1; cases h1
    rw [h3] at hi
    obtain ⟨x, hx⟩ : ∃ x, t.den.asS[i.den.asI.toNat]? = some x := ⟨_, List.getElem?_eq_getElem (by omega)⟩
    refine ⟨c, e, (lo, hi'), [.int .u8 (x.toNat : Int)], h2, ⟨_, [], ?_, rfl, rfl⟩, by simp [h3], fun j y hj => ?_⟩
    · show Value.int .u8 (x.toNat : Int) = .int .u8 (octAt t.den.asS i.den.asI.toNat)
      simp [octAt, List.getD_eq_getElem?_getD, hx]
    · cases j with
      | zero => simp at hj; subst hj; rw [h3]; simpa using h7 _ _ hx
      | succ j => simp at hj
  | seq sh t own =>
    simp only [elemA] at he; cases he
    obtain ⟨l', c, e, lo, hi', h1, h2, ⟨h3, h3'⟩, h4, h5, h6, h7⟩ := r.obj _ _ hg
    rw [hl] at h1; cases h1
    have hle : (i.den.asI.toNat + 1) * l.k ≤ t.den.asL.length * l.k := by rw [Nat.add_mul]; omega
    refine ⟨c, e, (lo, hi'), sh.mapIdx fun j kd => kdV kd ((t.den.asL.getD i.den.asI.toNat []).getD j (.dI 0)), h2, VRs.of_get (by simp [symCells_len]) fun j x y hx hy => ?_, by rw [symCells_len, h3], fun j y hj => ?_⟩
    · rw [symCells_get] at hx
      rw [List.getElem?_mapIdx] at hy
      cases hsj : sh[j]? with
      | none => simp [hsj] at hx
      | some kd =>
        simp [hsj] at hx hy
        subst hx; subst hy
        have := symCell_VR μ t i kd j
        simpa using this
    · rw [List.getElem?_mapIdx] at hj
      cases hsj : sh[j]? with
      | none => simp [hsj] at hj
      | some kd =>
        simp [hsj] at hj
        subst hj
        have hk : 0 < l.k := by
          have := (List.getElem?_eq_some_iff.1 hsj).1
          omega
        have hlt : i.den.asI.toNat < t.den.asL.length := Nat.lt_of_succ_le (Nat.le_of_mul_le_mul_right hle hk)
        have := h7 _ hlt j kd hsj
        simpa using this
theorem partS_run {t : TypeId} {cs : List AV} {j : Nat} {v : AV} (h : partS P t cs j = some v) {μ : Mu} {vs : List Value} (hc : VRs μ cs vs) {w : World} {b o : Nat} (hm : ∀ j y, vs[j]? = some y → w.cell? ⟨b, o + j, none⟩ = some y) :
    ∃ c, (loadVar t ⟨b, o + j, none⟩).run P w = .ok c w ∧ VR μ v c := by
  unfold partS at h
  split at h
  · rename_i hag
    split at h
    · rename_i n hn
      split at h
      · rename_i xs hxs
        cases h
        obtain ⟨e1, e2⟩ := cellsAt_eq hxs
        have hv : VRs μ xs ((vs.drop j).take n) := by rw [e1]; exact (hc.drop j).take n
        refine ⟨.agg ((vs.drop j).take n).toArray, ?_, _, hv, rfl⟩
        simp only [loadVar, Sem.run_bind, aggT_run hag, Result.andThen_ok, if_true, szOf_run hn]
        rw [run_loadCells b (o + j) n ((vs.drop j).take n) (by have := hc.length; simp; omega) (fun i y hi => by
          rw [List.getElem?_take] at hi
          split at hi
          · rw [List.getElem?_drop] at hi
            have := hm _ y hi
            rw [← this]; congr 2; omega
          · cases hi)]
        rfl
      · cases h
    · cases h
  · rename_i hag
    obtain ⟨y, h8, h9⟩ := hc.get _ _ h
    refine ⟨y, ?_, h9⟩
    simp only [loadVar, Sem.run_bind, aggT_run hag, Result.andThen_ok, Bool.false_eq_true, if_false]
    exact Ab.run_load (hm _ _ h8)
  · cases h
theorem elem_run {t : TypeId} {H : Heap} {μ : Mu} {w : World} (r : Rep μ H.get w) {id k : Nat} {i : Tm} {j : Nat} {o : AObj} (hg : H.get id = some o) {cs : List AV} (he : elemA o i = some cs) {v : AV} (h : partS P t cs j = some v) {ca : Value} (ha : VR μ (.eptr id k i j) ca) :
    ∃ c, (Instr.loadAt t ca).run P w = .ok c w ∧ VR μ v c := by
  obtain ⟨l, h1, h2, h3, h4, rfl⟩ := ha
  subst h2
  obtain ⟨c, e, fz, vs, k1, k2, k3, k4⟩ := rep_elem r hg he h1 h4
  have hrun : (Instr.loadAt t (.pointer (some ⟨l.b, l.s + (i.den.asI.toNat * l.k + j), none⟩))).run P w = (loadVar t ⟨l.b, l.s + i.den.asI.toNat * l.k + j, none⟩).run P w := by
    simp [Instr.loadAt, Instr.sureAddr, Nat.add_assoc]
  rw [hrun]
  refine partS_run h k2 fun j y hj => ?_
  rw [cell_row k1, Nat.add_assoc]
  exact k4 j y hj
theorem loadA_run {t : TypeId} {a v : AV} {H : Heap} (h : loadA P t a H = some v) {μ : Mu} {w : World} (r : Rep μ H.get w) {ca : Value} (ha : VR μ a ca) :
    ∃ c, (Instr.loadAt t ca).run P w = .ok c w ∧ VR μ v c := by
  unfold loadA at h
  split at h
  · rename_i id k i j
    split at h
    · rename_i t' own hg
      split at h
      · exact elem_run r hg rfl h ha
      · cases h
    · rename_i sh t' own hg
      cases hb : Nat.beq sh.length k with
      | false => simp [hb] at h
      | true =>
        simp only [hb, cond_true] at h
        exact elem_run r hg rfl h ha
    · cases h
  · rename_i id off
    split at h
    · rename_i vs own lf hg
      obtain ⟨l, c, e, lo, hi, h1, h2, h3, h4, h5, h6, h7⟩ := rep_row r hg
      have hca := ha.ptr_block h1
      subst hca
      have hrun : (Instr.loadAt t (.pointer (some ⟨l.b, l.s + off, none⟩))).run P w = (loadVar t ⟨l.b, l.s + off, none⟩).run P w := by
        simp [Instr.loadAt, Instr.sureAddr]
      rw [hrun]
      split at h
      · rename_i hag
        split at h
        · rename_i n hn
          split at h
          · rename_i xs hxs
            cases h
            obtain ⟨cs, k1, k2, k3, _⟩ := rep_cells h7 hxs
            refine ⟨.agg cs.toArray, ?_, cs, k1, rfl⟩
            simp only [loadVar, Sem.run_bind, aggT_run hag, Result.andThen_ok, if_true, szOf_run hn]
            rw [run_loadCells l.b (l.s + off) n cs k2 (fun j y hj => by rw [cell_row h2]; exact k3 j y hj)]
            rfl
          · cases h
        · cases h
      · rename_i hag
        obtain ⟨_, y, h8, h9⟩ := h7 _ _ h
        refine ⟨y, ?_, h9⟩
        simp only [loadVar, Sem.run_bind, aggT_run hag, Result.andThen_ok, Bool.false_eq_true, if_false]
        exact Ab.run_load (by rw [cell_row h2]; exact h8)
      · cases h
    · cases h
  · cases h
/-- What a store of cells into a row leaves. -/
theorem store_cells {μ : Mu} {H : Heap} {w : World} (r : Rep μ H.get w) (d : Dom μ H.next) {id : Nat} {vs : List AV} {lf : Bool} (hg : H.get id = some (.row vs true lf)) {off : Nat} {new vs' : List AV} (hp : putAt vs off new = some vs')
    {cs : List Value} (hc : VRs μ new cs) (ha : allCells new = true) (lf' : Bool) {l : Loc} (hl : μ id = some l) :
    ∃ w', (storeCells ⟨l.b, l.s + off, none⟩ cs).run P w = .ok () w' ∧ Evo μ H.get H.next w μ (H.upd id (.row vs' true lf')).get (H.upd id (.row vs' true lf')).next w' := by
  obtain ⟨l', c, e, lo, hi, h1, h2, h3, h4, h5, h6, h7⟩ := rep_row r hg
  rw [hl] at h1; cases h1
  obtain ⟨hp1, hp2⟩ := putAt_eq _ _ _ _ hp
  have hcl := hc.length
  have hroom : l.s + off + cs.length ≤ c.size := by omega
  have hrun := run_storeCells (P := P) l.b (l.s + off) e lo hi cs 0 w c h2 (by omega) (h6 rfl) (hc.cellsV ha)
  obtain ⟨c', k1, k2, k3⟩ := setRow_at e (lo, hi) cs w l.b (l.s + off) c h2 hroom
  obtain ⟨m1, m2, m3, m4⟩ := setRow_rest cs w l.b (l.s + off)
  refine ⟨_, hrun, ?_⟩
  refine evo_upd r d hg rfl hl (fun b hb => setRow_ne cs w l.b (l.s + off) b hb) m1 m2 m3 m4 ?_
  refine ⟨l, c', e, lo, hi, hl, k1, by rw [putAt_len hp, h3], h4, by omega, fun _ => by rw [k2]; exact h6 rfl, fun i x hx => ?_⟩
  rw [putAt_get hp] at hx
  rw [k3]
  by_cases hi' : off ≤ i ∧ i < off + new.length
  · rw [if_pos hi'] at hx
    rw [if_pos (by omega)]
    obtain ⟨y, hy, hv⟩ := hc.get _ x hx
    refine ⟨?_, y, by rw [← hy]; congr 1; omega, hv⟩
    simp only [allCells, List.all_eq_true] at ha
    exact ha x (List.mem_of_getElem? hx)
  · rw [if_neg hi'] at hx
    rw [if_neg (by omega)]
    exact h7 i x hx
theorem storeA_run {t : TypeId} {a v : AV} {H H' : Heap} (h : storeA P t a v H = some H') {μ : Mu} {w : World} (r : Rep μ H.get w) (d : Dom μ H.next) {ca cv : Value} (ha : VR μ a ca) (hv : VR μ v cv) :
    ∃ w', (Instr.storeAt t ca cv).run P w = .ok () w' ∧ Evo μ H.get H.next w μ H'.get H'.next w' := by
  unfold storeA at h
  split at h
  · rename_i id off
    split at h
    · rename_i vs lf n hg hn
      split at h
      · rename_i hc
        obtain ⟨hc1, hc2⟩ := hc
        split at h
        · rename_i vs' hp
          cases h
          obtain ⟨l, c, e, lo, hi, h1, h2, _⟩ := rep_row r hg
          have hca := ha.ptr_block h1
          subst hca
          obtain ⟨w', hr, he⟩ := store_cells (P := P) r d hg hp hv.cells hc2 (lf && flats v.cells) h1
          refine ⟨w', ?_, he⟩
          have hsz : cv.cells.size = n := by
            have := hv.cells.length
            simp at this; omega
          simp only [Instr.storeAt, Instr.sureAddr, Sem.run_bind, Sem.run_pure, Result.andThen_ok, storeVar, szOf_run hn, hsz, ne_eq, not_true, if_false]
          exact hr
        · cases h
      · cases h
    · cases h
  · cases h
/-- A new row of cells of the call's own. -/
theorem new_cells {μ : Mu} {H : Heap} {w : World} (r : Rep μ H.get w) (d : Dom μ H.next) {cells : List AV} {cs : List Value} (hc : VRs μ cells cs) (ha : allCells cells = true) (e : TypeId) (lf : Bool) :
    Evo μ H.get H.next w (setMu μ H.next ⟨w.heap.size, 0, cells.length, 1, cells.length⟩) (H.new (.row cells true lf)).get (H.new (.row cells true lf)).next { w with heap := w.heap.push (.cells cs.toArray e) } := by
  refine evo_new r d (Plus.refl w _) _ _ rfl fun μ' he hm => ?_
  have hl := hc.length
  refine ⟨_, cs.toArray, e, 0, 0, hm, by simp, rfl, by simp, by simp; omega, fun _ => .inr (Nat.le_refl _), fun i x hx => ?_⟩
  obtain ⟨y, hy, hv⟩ := hc.get i x hx
  refine ⟨?_, y, by simpa using hy, hv.ext he⟩
  simp only [allCells, List.all_eq_true] at ha
  exact ha x (List.mem_of_getElem? hx)
theorem boxA_run {v p : AV} {H H' : Heap} (h : boxA v H = some (p, H')) {μ : Mu} {w : World} (r : Rep μ H.get w) (d : Dom μ H.next) {cv : Value} (hv : VR μ v cv) (e : TypeId) :
    ∃ μ' c w', (newVar e cv).run P w = .ok c w' ∧ VR μ' p (.pointer (some c)) ∧ Evo μ H.get H.next w μ' H'.get H'.next w' := by
  unfold boxA at h
  split at h
  · rename_i ha
    cases h
    have he := new_cells r d hv.cells ha e (flats v.cells)
    refine ⟨_, ⟨w.heap.size, 0, none⟩, _, ?_, ⟨⟨w.heap.size, 0, v.cells.length, 1, v.cells.length⟩, by simp [setMu], rfl⟩, he⟩
    simp [newVar, newRow]
  · cases h
theorem allocA_run {e : TypeId} {p : AV} {H H' : Heap} (h : allocA P e H = some (p, H')) {μ : Mu} {w : World} (r : Rep μ H.get w) (d : Dom μ H.next) :
    ∃ μ' c w', (Instr.alloc e true (.tuple #[])).run P w = .ok c w' ∧ VR μ' p c ∧ Evo μ H.get H.next w μ' H'.get H'.next w' := by
  unfold allocA at h
  split at h
  · rename_i v hz
    obtain ⟨z, h1, h2⟩ := zeroA_run hz w
    obtain ⟨μ', c, w', h3, h4, h5⟩ := boxA_run (P := P) h r d (ofV_VR μ z v h2) e
    refine ⟨μ', _, w', ?_, h4, h5⟩
    simp [Instr.alloc, h1, h3]
  · cases h
end
end Go.Proofs.Ytamibbjpapkfeaa.Ab
