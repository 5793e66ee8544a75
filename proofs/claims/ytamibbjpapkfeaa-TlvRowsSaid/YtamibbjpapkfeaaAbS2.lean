import Derived.Test.YtamibbjpapkfeaaAbS1
import Derived.ChangeKeysEq
import Derived.Laws.BytesString
namespace Go.Proofs.Ytamibbjpapkfeaa.Ab
set_option linter.unusedSimpArgs false
set_option linter.unusedVariables false
open Go
set_option linter.unusedSectionVars false
variable [Rho]
section
variable {P : Program}

theorem ofV0_VR (μ : Mu) (v : Value) (x : AV) (h : ofV0 v = some x) : VR μ x v ∧ isCell x = true := by
  unfold ofV0 at h
  split at h <;> first | (cases h; simp [VR, isCell]; done) | (cases h)
theorem ofVs_VR (μ : Mu) : ∀ (l : List Value) (x : List AV), ofVs l = some x → VRs μ x l ∧ ∀ y ∈ x, isCell y = true
  | [], x, h => by simp [ofVs] at h; subst h; exact ⟨rfl, by simp⟩
  | v :: l, x, h => by
    simp only [ofVs] at h
    split at h
    · rename_i a b ha hb
      cases h
      obtain ⟨h1, h2⟩ := ofV0_VR μ v a ha
      obtain ⟨h3, h4⟩ := ofVs_VR μ l b hb
      exact ⟨⟨v, l, h1, h3, rfl⟩, fun y hy => (List.mem_cons.1 hy).elim (fun e => e ▸ h2) (h4 y)⟩
    · cases h
theorem ofV_VR (μ : Mu) (v : Value) (x : AV) (h : ofV v = some x) : VR μ x v := by
  unfold ofV at h
  split at h
  · rename_i cs
    cases hl : ofVs cs.toList with
    | none => simp [hl] at h
    | some l => simp [hl] at h; subst h; exact ⟨cs.toList, (ofVs_VR μ _ _ hl).1, rfl⟩
  · rename_i cs
    cases hl : ofVs cs.toList with
    | none => simp [hl] at h
    | some l => simp [hl] at h; subst h; exact ⟨cs.toList, (ofVs_VR μ _ _ hl).1, rfl⟩
  · rename_i fn a b
    split at h
    · rename_i hab
      cases h
      simp at hab
      have ha : a = #[] := hab.1
      have hb : b = #[] := hab.2
      subst ha; subst hb
      exact ⟨[], [], rfl, rfl, rfl⟩
    · cases h
  · exact (ofV0_VR μ _ _ h).1

/-- The frame: each slot that is known holds what it should. -/
def FRel (μ : Mu) (fr : FR) (tmps : Array Value) : Prop := ∀ t v, lk fr t = some v → ∃ c, tmps[t]? = some c ∧ VR μ v c
theorem FRel.ext {μ μ' : Mu} {fr : FR} {tmps : Array Value} (e : Ext μ μ') (h : FRel μ fr tmps) : FRel μ' fr tmps := fun t v hv => by
  obtain ⟨c, h1, h2⟩ := h t v hv
  exact ⟨c, h1, h2.ext e⟩
theorem lk_cons (d : Nat) (v : AV) (fr : FR) (t : Nat) : lk ((d, v) :: fr) t = if t = d then some v else lk fr t := by
  show @Bool.rec (fun _ => Option AV) (lk fr t) (some v) (Nat.beq d t) = _
  by_cases h : t = d
  · subst h; simp
  · have : Nat.beq d t = false := by
      cases h' : Nat.beq d t with
      | false => rfl
      | true => exact absurd (Nat.eq_of_beq_eq_true h').symm h
    simp [this, h]
theorem putA_eq {nt : Nat} {fr fr' : FR} {dst : Option Tmp} {v : AV} (h : putA nt fr dst v = some fr') :
    (dst = none ∧ fr' = fr) ∨ ∃ d, dst = some d ∧ d < nt ∧ fr' = (d, v) :: fr := by
  cases dst with
  | none => simp [putA] at h; exact .inl ⟨rfl, h.symm⟩
  | some d =>
    simp only [putA] at h
    cases hb : Nat.blt d nt with
    | false => simp [hb] at h
    | true => simp [hb] at h; exact .inr ⟨d, rfl, by simpa [Nat.blt_eq] using hb, h.symm⟩
theorem FRel.put {μ : Mu} {fr fr' : FR} {a : Act} {dst : Option Tmp} {v : AV} {c : Value} (h : FRel μ fr a.tmps) (hv : VR μ v c) (hp : putA a.tmps.size fr dst v = some fr') :
    FRel μ fr' (a.put dst c).tmps ∧ (a.put dst c).tmps.size = a.tmps.size ∧ (a.put dst c).defers = a.defers := by
  rcases putA_eq hp with ⟨rfl, rfl⟩ | ⟨d, rfl, hd, rfl⟩
  · exact ⟨h, rfl, rfl⟩
  · refine ⟨fun t x hx => ?_, by simp [Act.put], rfl⟩
    rw [lk_cons] at hx
    simp only [Act.put]
    split at hx
    · rename_i e; cases hx; subst e
      exact ⟨c, by simp [hd], hv⟩
    · rename_i e
      obtain ⟨y, h1, h2⟩ := h t x hx
      exact ⟨y, by rw [Array.getElem?_setIfInBounds_ne (Ne.symm e)]; exact h1, h2⟩
theorem evalA_VR {μ : Mu} {fr : FR} {a : Act} (h : FRel μ fr a.tmps) {x : Operand} {v : AV} (hx : evalA fr x = some v) : VR μ v (a.eval x) := by
  cases x with
  | tmp t =>
    obtain ⟨c, h1, h2⟩ := h t v hx
    simpa [Act.eval, h1] using h2
  | const c => exact ofV_VR μ c v hx
  | global g => simp [evalA] at hx
  | func f => simp [evalA] at hx; subst hx; exact ⟨[], [], rfl, rfl, rfl⟩
theorem evals_VR {μ : Mu} {fr : FR} {a : Act} (h : FRel μ fr a.tmps) : ∀ {l : List Operand} {v : List AV}, evals fr l = some v → VRs μ v (l.map a.eval)
  | [], v, hx => by simp [evals] at hx; subst hx; rfl
  | x :: l, v, hx => by
    simp only [evals] at hx
    split at hx
    · rename_i y r h1 h2
      cases hx
      exact ⟨_, _, evalA_VR h h1, evals_VR h h2, rfl⟩
    · cases hx

/-! ### types -/
theorem szOf_run {t : TypeId} {n : Nat} (h : szOf P t = some n) (w : World) : (sizeOf t).run P w = .ok n w := by
  unfold szOf at h
  split at h
  · rename_i i hi
    cases h
    simp [sizeOf, run_typeInfo (w := w) hi]
  · cases h
theorem bytesOf_run {t : TypeId} {n : Nat} (h : bytesOf P t = some n) : ∃ i, P.info? t = some i ∧ i.bytes = n := by
  unfold bytesOf at h
  split at h
  · rename_i i hi; cases h; exact ⟨i, hi, rfl⟩
  · cases h
theorem zeroA_run {t : TypeId} {v : AV} (h : zeroA P t = some v) (w : World) : ∃ z, (zeroValue t).run P w = .ok z w ∧ ofV z = some v := by
  unfold zeroA at h
  split at h
  · rename_i i hi
    split at h
    · rename_i z hz
      exact ⟨z, by simp [zeroValue, run_typeInfo (w := w) hi, hz], h⟩
    · cases h
  · cases h
theorem zeroA_runs {t : TypeId} {v : AV} (h : zeroA P t = some v) : ∃ z, (∀ w, (zeroValue t).run P w = .ok z w) ∧ ofV z = some v := by
  unfold zeroA at h
  split at h
  · rename_i i hi
    split at h
    · rename_i z hz
      exact ⟨z, fun w => by simp [zeroValue, run_typeInfo (w := w) hi, hz], h⟩
    · cases h
  · cases h
theorem aggT_run {t : TypeId} {b : Bool} (h : aggT P t = some b) (w : World) : (isAgg t).run P w = .ok b w := by
  unfold aggT at h
  split at h <;> rename_i ht <;> first | (cases h; simp [isAgg, run_underlying ht]; done) | skip
  cases h

/-! ### values of several cells -/
theorem VR.cells {μ : Mu} {v : AV} {c : Value} (h : VR μ v c) : VRs μ v.cells c.cells.toList := by
  cases v with
  | agg l => obtain ⟨x, h1, rfl⟩ := h; simpa [AV.cells, Value.cells] using h1
  | ptr id off => obtain ⟨l, _, rfl⟩ := (show _ from h); exact ⟨_, [], h, rfl, by simp [Value.cells]⟩
  | map id => obtain ⟨l, _, rfl⟩ := (show _ from h); exact ⟨_, [], h, rfl, by simp [Value.cells]⟩
  | iface t u => obtain ⟨l, _, rfl⟩ := (show _ from h); exact ⟨_, [], h, rfl, by simp [Value.cells]⟩
  | tuple t => obtain ⟨l, _, rfl⟩ := (show _ from h); exact ⟨_, [], h, rfl, by simp [Value.cells]⟩
  | func fn a b => obtain ⟨x, y, _, _, rfl⟩ := (show _ from h); exact ⟨_, [], h, rfl, by simp [Value.cells]⟩
  | eptr id k i j => obtain ⟨l, _, _, _, _, rfl⟩ := (show _ from h); exact ⟨_, [], h, rfl, by simp [Value.cells]⟩
  | sslice id k off len =>
    have : ∃ o n k, c = .slice o n k := by
      obtain ⟨l, _, _, _, _, _, _, h2 | ⟨_, _, h2⟩⟩ := (show _ from h) <;> exact ⟨_, _, _, h2⟩
    obtain ⟨o, n, k, rfl⟩ := this
    exact ⟨_, [], h, rfl, by simp [Value.cells]⟩
  | slice id' off len cap =>
    have : ∃ o n k, c = .slice o n k := by
      obtain ⟨l, _, h2⟩ := (show _ from h)
      cases cap with
      | known n => exact ⟨_, _, _, h2⟩
      | unk k => rcases h2 with ⟨_, _, _, _, h2 | ⟨_, _, _, h2⟩⟩ <;> exact ⟨_, _, _, h2⟩
    obtain ⟨o, n, k, rfl⟩ := this
    exact ⟨_, [], h, rfl, by simp [Value.cells]⟩
  | _ => first | (have h' : c = _ := h; subst h'; exact ⟨_, [], rfl, rfl, by simp [Value.cells]⟩)
theorem VR.cellV {μ : Mu} {v : AV} {c : Value} (h : VR μ v c) (hc : isCell v = true) : cellV c = true := by
  cases v with
  | agg l => simp [isCell] at hc
  | tuple l => simp [isCell] at hc
  | ptr id off => obtain ⟨l, _, rfl⟩ := (show _ from h); rfl
  | map id => obtain ⟨l, _, rfl⟩ := (show _ from h); rfl
  | iface t u => obtain ⟨l, _, rfl⟩ := (show _ from h); rfl
  | func fn a b => obtain ⟨x, y, _, _, rfl⟩ := (show _ from h); rfl
  | eptr id k i j => obtain ⟨l, _, _, _, _, rfl⟩ := (show _ from h); rfl
  | sslice id k off len => obtain ⟨l, _, _, _, _, _, _, h2 | ⟨_, _, h2⟩⟩ := (show _ from h) <;> subst h2 <;> rfl
  | slice id' off len cap =>
    obtain ⟨l, _, h2⟩ := (show _ from h)
    cases cap with
    | known n => subst h2; rfl
    | unk k => rcases h2 with ⟨_, _, _, _, h2 | ⟨_, _, _, h2⟩⟩ <;> subst h2 <;> rfl
  | _ => first | (have h' : c = _ := h; subst h'; rfl)
theorem VR.cells_cell {μ : Mu} {v : AV} {c : Value} (h : VR μ v c) (hc : isCell v = true) : v.cells = [v] ∧ c.cells = #[c] := by
  have hv := h.cellV hc
  constructor
  · cases v <;> first | rfl | simp [isCell] at hc
  · cases c <;> first | rfl | simp [Ab.cellV] at hv
theorem VRs.cellsV {μ : Mu} : ∀ {l : List AV} {c : List Value}, VRs μ l c → allCells l = true → ∀ x ∈ c, cellV x = true
  | [], _, h, _, x, hx => by cases h; simp at hx
  | v :: l, _, h, ha, x, hx => by
    obtain ⟨y, r, h1, h2, rfl⟩ := h
    simp [allCells] at ha
    simp at hx
    rcases hx with rfl | hx
    · exact h1.cellV ha.1
    · exact VRs.cellsV h2 (by simpa [allCells] using ha.2) x hx
theorem toList_extract (c : Array Value) (a b : Nat) : (c.extract a b).toList = (c.toList.drop a).take (b - a) := by simp
theorem partA_run {μ : Mu} {t : TypeId} {cs : List AV} {off : Nat} {v : AV} {c : List Value} (h : partA P t cs off = some v) (hc : VRs μ cs c) (w : World) :
    ∃ x, (part t c.toArray off).run P w = .ok x w ∧ VR μ v x := by
  unfold partA at h
  split at h
  · rename_i ha
    split at h
    · rename_i n hn
      split at h
      · rename_i l hl
        cases h
        obtain ⟨h1, h2⟩ := cellsAt_eq hl
        refine ⟨.agg ((c.drop off).take n).toArray, ?_, ⟨_, (by rw [h1]; exact (hc.drop off).take n), rfl⟩⟩
        simp [part, aggT_run ha, szOf_run hn]
      · cases h
    · cases h
  · rename_i ha
    obtain ⟨x, h1, h2⟩ := hc.get off v h
    exact ⟨x, by simp [part, aggT_run ha, h1], h2⟩
  · cases h

/-! ### equality -/
theorem VR.tmB {μ : Mu} {x : AV} {c : Value} {t : Tm} (h : VR μ x c) (k : Ab.tmB x = some t) : c = .bool t.den.asB := by
  cases x <;> simp only [Ab.tmB] at k <;> first | (cases k; done) | skip
  · cases k; exact h
  · cases k; exact h
theorem VR.tmI {μ : Mu} {x : AV} {c : Value} {kd : IntKind} {t : Tm} (h : VR μ x c) (k : Ab.tmI x = some (kd, t)) : c = .int kd t.den.asI := by
  cases x <;> simp only [Ab.tmI] at k <;> first | (cases k; done) | skip
  · cases k; exact h
  · cases k; exact h
theorem VR.tmS {μ : Mu} {x : AV} {c : Value} {t : Tm} (h : VR μ x c) (k : Ab.tmS x = some t) : c = .string ⟨t.den.asS.toArray⟩ := by
  cases x <;> simp only [Ab.tmS] at k <;> first | (cases k; done) | skip
  · cases k; exact h
  · cases k; exact h
theorem mkB_VR (μ : Mu) (t : Tm) : VR μ (mkB t) (.bool t.den.asB) := by cases t <;> rfl
theorem mkI_VR (μ : Mu) (k : IntKind) (t : Tm) : VR μ (mkI k t) (.int k t.den.asI) := by cases t <;> rfl
theorem mkS_VR (μ : Mu) (t : Tm) : VR μ (mkS t) (.string ⟨t.den.asS.toArray⟩) := by cases t <;> rfl
theorem beq_bytes (a b : List UInt8) : ((⟨a.toArray⟩ : ByteArray) == ⟨b.toArray⟩) = (a == b) := by
  rw [beq_toListBytes, ByteArray.toList_eq, ByteArray.toList_eq]
theorem VR.ptr_block {μ : Mu} {i a : Nat} {c : Value} {l : Loc} (h : VR μ (.ptr i a) c) (hl : μ i = some l) : c = .pointer (some ⟨l.b, l.s + a, none⟩) := by
  obtain ⟨l', h1, h2⟩ := h
  rw [hl] at h1; cases h1; exact h2
theorem VR.slice_some {μ : Mu} {i a n : Nat} {k : Cap} {c : Value} (h : VR μ (.slice i a n k) c) : ∃ p m q, c = .slice (some p) m q := by
  obtain ⟨l, _, h2⟩ := h
  cases k with
  | known n => exact ⟨_, _, _, h2⟩
  | unk k => rcases h2 with ⟨_, _, _, _, h2 | ⟨_, _, _, h2⟩⟩ <;> exact ⟨_, _, _, h2⟩
set_option maxHeartbeats 2000000
mutual
theorem eqA_run {μ : Mu} : ∀ (d : Nat) (t : TypeId) (x y : AV) (b : Tm), eqA P d t x y = some b → ∀ (cx cy : Value), VR μ x cx → VR μ y cy → ∀ (D : Nat) (w : World), d ≤ D → (Op.equalIn D t cx cy).run P w = .ok b.den.asB w
  | 0, t, x, y, b, h, _, _, _, _, _, _, _ => by simp [eqA] at h
  | d + 1, t, x, y, b, h, cx, cy, hx, hy, D, w, hD => by
    obtain ⟨D, rfl⟩ : ∃ n, D = n + 1 := ⟨D - 1, by omega⟩
    unfold eqA at h
    split at h
    · rename_i ht
      cases h; cases hx; cases hy
      simp [Op.equalIn, run_underlying ht, Tm.den, Dat.asB]
    · rename_i ht
      split at h
      · rename_i hk; cases h; cases hx; cases hy
        simp [Op.equalIn, run_underlying ht, hk, Tm.den, Dat.asB]
      · cases h
    · rename_i ht
      cases h; cases hx; cases hy
      simp [Op.equalIn, run_underlying ht, beq_bytes, Tm.den, Dat.asB]
    · rename_i ht _
      split at h
      · rename_i p q hp hq
        cases h; cases hx.tmB hp; cases hy.tmB hq
        rw [beqT_den]
        show _ = Result.ok (p.den.asB == q.den.asB) w
        simp [Op.equalIn, run_underlying ht]
      · cases h
    · rename_i ht _
      split at h
      · rename_i k p k' q hp hq
        split at h
        · rename_i hk
          cases h; cases hx.tmI hp; cases hy.tmI hq
          rw [iopT_den]
          show _ = Result.ok (p.den.asI == q.den.asI) w
          simp [Op.equalIn, run_underlying ht, hk]
        · cases h
      · cases h
    · rename_i ht _
      split at h
      · rename_i p q hp hq
        cases h; cases hx.tmS hp; cases hy.tmS hq
        rw [sopT_den]
        show _ = Result.ok (p.den.asS == q.den.asS) w
        simp [Op.equalIn, run_underlying ht, beq_bytes]
      · cases h
    · rename_i ht
      cases h; cases hx; cases hy
      simp [Op.equalIn, run_underlying ht, Tm.den, Dat.asB]
    · rename_i ht
      cases h; cases hx; obtain ⟨l, _, rfl⟩ := hy
      simp [Op.equalIn, run_underlying ht, Tm.den, Dat.asB]
    · rename_i ht
      cases h; cases hy; obtain ⟨l, _, rfl⟩ := hx
      simp [Op.equalIn, run_underlying ht, Tm.den, Dat.asB]
    · rename_i e i a j b' ht
      split at h
      · cases h
      · rename_i n hn hs
        split at h
        · rename_i hij
          cases h; subst hij
          obtain ⟨l, hl, rfl⟩ := hx
          have := hy.ptr_block hl
          subst this
          simp only [Op.equalIn, Sem.run_bind, run_underlying ht, Result.andThen_ok, szOf_run hs]
          have hn0 : n ≠ 0 := hn
          simp [hn0, sameAddr, Tm.den, Dat.asB]
          rw [Bool.eq_iff_iff]; simp
        · cases h
      · cases h
    · rename_i ht
      cases h; cases hx; cases hy
      simp [Op.equalIn, run_underlying ht, Tm.den, Dat.asB]
    · rename_i ht
      cases h; cases hx; obtain ⟨l, _, rfl⟩ := hy
      simp [Op.equalIn, run_underlying ht, Tm.den, Dat.asB]
    · rename_i ht
      cases h; cases hy; obtain ⟨l, _, rfl⟩ := hx
      simp [Op.equalIn, run_underlying ht, Tm.den, Dat.asB]
    · rename_i fs xs ys ht
      split at h
      · cases h
      · rename_i hp
        obtain ⟨lx, hlx, rfl⟩ := hx
        obtain ⟨ly, hly, rfl⟩ := hy
        have hf : P.fieldsOf t = fs := by simp [Program.fieldsOf, ht]
        rw [run_equalIn_struct w D t _ _ (by rw [hf]; exact ht) (by simpa using hp), hf]
        exact eqFs_run d fs.toList xs ys b h lx ly hlx hly D w (by omega)
    · rename_i len e xs ys ht
      split at h
      · rename_i n hn
        obtain ⟨lx, hlx, rfl⟩ := hx
        obtain ⟨ly, hly, rfl⟩ := hy
        have ⟨i, hi, hin⟩ : ∃ i, P.info? e = some i ∧ i.size = n := by
          unfold szOf at hn
          split at hn
          · rename_i i hi; cases hn; exact ⟨i, hi, rfl⟩
          · cases hn
        have hcs : P.cellsOf e = n := by
          have h1 := run_sizeOf (w := w) hi
          rw [szOf_run hn] at h1
          cases h1; rfl
        rw [run_equalIn_array (w := w) D _ _ ht hi, hcs, List.range_eq_range']
        exact eqEs_run d e n len 0 xs ys b h lx ly hlx hly D w (by omega)
      · cases h
    · rename_i ht
      cases h; cases hx; cases hy
      simp [Op.equalIn, run_underlying ht, Tm.den, Dat.asB]
    · rename_i ht
      cases h; cases hx; obtain ⟨p, m, q, rfl⟩ := hy.slice_some
      simp [Op.equalIn, run_underlying ht, Tm.den, Dat.asB]
    · rename_i ht
      cases h; cases hy; obtain ⟨p, m, q, rfl⟩ := hx.slice_some
      simp [Op.equalIn, run_underlying ht, Tm.den, Dat.asB]
    · rename_i ht
      cases h; cases hx; cases hy
      simp [Op.equalIn, run_underlying ht, Tm.den, Dat.asB]
    · rename_i ht
      cases h; cases hx; obtain ⟨l, _, rfl⟩ := hy
      simp [Op.equalIn, run_underlying ht, Tm.den, Dat.asB]
    · rename_i ht
      cases h; cases hy; obtain ⟨l, _, rfl⟩ := hx
      simp [Op.equalIn, run_underlying ht, Tm.den, Dat.asB]
    · rename_i ht
      cases h; cases hx; cases hy
      simp [Op.equalIn, run_underlying ht, Tm.den, Dat.asB]
    · rename_i ht
      cases h; cases hx; obtain ⟨x, y, _, _, rfl⟩ := hy
      simp [Op.equalIn, run_underlying ht, Tm.den, Dat.asB]
    · rename_i ht
      cases h; cases hy; obtain ⟨x, y, _, _, rfl⟩ := hx
      simp [Op.equalIn, run_underlying ht, Tm.den, Dat.asB]
    · cases h
theorem eqFs_run {μ : Mu} : ∀ (d : Nat) (fs : List Field) (xs ys : List AV) (b : Tm), eqFs P d fs xs ys = some b → ∀ (cx cy : List Value), VRs μ xs cx → VRs μ ys cy → ∀ (D : Nat) (w : World), d ≤ D →
    (Op.eqFields D cx.toArray cy.toArray fs).run P w = .ok b.den.asB w
  | _, [], xs, ys, b, h, cx, cy, _, _, D, w, _ => by
    simp [eqFs] at h; subst h; simp [Op.eqFields, Sem.run_pure, Tm.den, Dat.asB]
  | 0, f :: fs, xs, ys, b, h, _, _, _, _, _, _, _ => by simp [eqFs] at h
  | d + 1, f :: fs, xs, ys, b, h, cx, cy, hx, hy, D, w, hD => by
    unfold eqFs at h
    split at h
    · rename_i hn
      split at h
      · rename_i a a' ha ha'
        split at h
        · rename_i p q hp hq
          cases h
          obtain ⟨u, hu, hu'⟩ := partA_run ha hx w
          obtain ⟨v, hv, hv'⟩ := partA_run ha' hy w
          have h1 := eqA_run d f.type a a' p hp u v hu' hv' D w (by omega)
          simp only [Op.eqFields, if_pos hn, Sem.run_bind, hu, hv, h1, Result.andThen_ok]
          rw [andT_den]
          cases hpd : p.den.asB
          · simp [Sem.run_pure]
          · simpa using eqFs_run d fs xs ys q hq cx cy hx hy D w (by omega)
        · cases h
      · cases h
    · rename_i hn
      simp only [Op.eqFields, if_neg hn]
      exact eqFs_run d fs xs ys b h cx cy hx hy D w (by omega)
theorem eqEs_run {μ : Mu} : ∀ (d : Nat) (e : TypeId) (n len i : Nat) (xs ys : List AV) (b : Tm), eqEs P d e n len i xs ys = some b → ∀ (cx cy : List Value), VRs μ xs cx → VRs μ ys cy → ∀ (D : Nat) (w : World), d ≤ D →
    (Op.eqItems D e n cx.toArray cy.toArray (List.range' i len)).run P w = .ok b.den.asB w
  | _, e, n, 0, i, xs, ys, b, h, cx, cy, _, _, D, w, _ => by
    simp [eqEs] at h; subst h; simp [Op.eqItems, Sem.run_pure, Tm.den, Dat.asB]
  | 0, e, n, len + 1, i, xs, ys, b, h, _, _, _, _, _, _, _ => by simp [eqEs] at h
  | d + 1, e, n, len + 1, i, xs, ys, b, h, cx, cy, hx, hy, D, w, hD => by
    unfold eqEs at h
    split at h
    · rename_i a a' ha ha'
      split at h
      · rename_i p q hp hq
        cases h
        obtain ⟨u, hu, hu'⟩ := partA_run ha hx w
        obtain ⟨v, hv, hv'⟩ := partA_run ha' hy w
        have h1 := eqA_run d e a a' p hp u v hu' hv' D w (by omega)
        simp only [List.range'_succ, Op.eqItems, Sem.run_bind, hu, hv, h1, Result.andThen_ok]
        rw [andT_den]
        cases hpd : p.den.asB
        · simp [Sem.run_pure]
        · simpa using eqEs_run d e n len (i + 1) xs ys q hq cx cy hx hy D w (by omega)
      · cases h
    · cases h
end
end
end Go.Proofs.Ytamibbjpapkfeaa.Ab
