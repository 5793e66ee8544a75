/-
  What the arguments read as, as rows: a slice of structs of plain fields, cell by cell.
  Conditions: as each theorem tells.
-/
import Derived.Test.YtamibbjpapkfeaaAbK
import Derived.ProofKit
import Derived.ChangeOld
namespace Go.Proofs.Ytamibbjpapkfeaa.Ab
set_option linter.unusedSimpArgs false
set_option linter.unusedVariables false
open Go Go.ChangeShapes Go.WideShapes
set_option linter.unusedSectionVars false
section
variable {P : Program}
/-- The kinds of a struct's cells, field by field. -/
def flatF (P : Program) (rec : TypeId → Option (List Kd)) : List Field → Nat → Option (List Kd)
  | [], _ => some []
  | f :: l, o => match rec f.type with
    | some a => bif Nat.beq f.offset o && Nat.beq a.length (P.cellsOf f.type) then (match flatF P rec l (o + a.length) with
      | some b => some (a ++ b)
      | none => none) else none
    | none => none
/-- The kinds of a type's cells: bools, numbers, texts, structs of these. -/
def flatK (P : Program) : Nat → TypeId → Option (List Kd)
  | 0, _ => none
  | n + 1, t => match P.underlying t with
    | some .bool => some [.kb]
    | some (.int k) => some [.ki k]
    | some .string => some [.ks]
    | some (.struct fs) => match flatF P (flatK P n) fs.toList 0 with
      | some l => bif Nat.beq l.length (P.cellsOf t) then some l else none
      | none => none
    | _ => none
/-- A datum of a kind. -/
def okD : Kd → Dat → Prop
  | .kb, d => ∃ b, d = .dB b
  | .ki k, d => ∃ n, d = .dI n ∧ (Lit.int k n).wf = true
  | .ks, d => ∃ s, d = .dS s ∧ s.length ≤ maxLen
/-- Cells of these kinds hold these data. -/
def RowK : List Kd → List Dat → List Value → Prop
  | [], [], [] => True
  | k :: sh, d :: r, c :: cs => c = kdV k d ∧ okD k d ∧ RowK sh r cs
  | _, _, _ => False
theorem RowK.append : ∀ {a : List Kd} {x : List Dat} {u : List Value} {b : List Kd} {y : List Dat} {v : List Value}, RowK a x u → RowK b y v → RowK (a ++ b) (x ++ y) (u ++ v)
  | [], [], [], _, _, _, _, h => h
  | _ :: _, _ :: _, _ :: _, _, _, _, ⟨h1, h2, h3⟩, h => ⟨h1, h2, RowK.append h3 h⟩
  | [], _ :: _, _, _, _, _, h, _ => h.elim
  | [], [], _ :: _, _, _, _, h, _ => h.elim
  | _ :: _, [], _, _, _, _, h, _ => h.elim
  | _ :: _, _ :: _, [], _, _, _, h, _ => h.elim
theorem RowK.len : ∀ {a : List Kd} {x : List Dat} {u : List Value}, RowK a x u → x.length = a.length ∧ u.length = a.length
  | [], [], [], _ => ⟨rfl, rfl⟩
  | _ :: _, _ :: _, _ :: _, ⟨_, _, h⟩ => by
    have := RowK.len h
    simp [this.1, this.2]
  | [], _ :: _, _, h => h.elim
  | [], [], _ :: _, h => h.elim
  | _ :: _, [], _, h => h.elim
  | _ :: _, _ :: _, [], h => h.elim
theorem RowK.get : ∀ {a : List Kd} {x : List Dat} {u : List Value}, RowK a x u → ∀ (j : Nat) (kd : Kd), a[j]? = some kd → u[j]? = some (kdV kd (x.getD j (.dI 0))) ∧ okD kd (x.getD j (.dI 0))
  | [], [], [], _, j, kd, h => by simp at h
  | k :: a, d :: x, c :: u, ⟨h1, h2, h3⟩, j, kd, h => by
    cases j with
    | zero => simp at h; subst h; simp [h1, h2]
    | succ j => simpa using RowK.get h3 j kd (by simpa using h)
  | [], _ :: _, _, h, _, _, _ => h.elim
  | [], [], _ :: _, h, _, _, _ => h.elim
  | _ :: _, [], _, h, _, _, _ => h.elim
  | _ :: _, _ :: _, [], h, _, _, _ => h.elim
variable {H : Type} {enc : TypeId × Value → H} {w : World} {base : Nat} {spare : Nat → Bool} {held : Bool}
theorem trod_flat : ∀ (n : Nat) {t : TypeId} {sh : List Kd} {fuel : Nat} {cs : List Value} {x : DataW H × List MemPlace}, flatK P n t = some sh → DataW.trod enc P w base spare held fuel t cs = some x → ∃ row, RowK sh row cs
  | 0, _, _, _, _, _, h, _ => by simp [flatK] at h
  | n + 1, t, sh, fuel, cs, x, h, hx => by
    unfold flatK at h
    split at h
    · rename_i ht
      cases h
      obtain ⟨b, rfl, _⟩ := DataW.trod_bool ht hx
      exact ⟨[.dB b], rfl, ⟨b, rfl⟩, trivial⟩
    · rename_i k ht
      cases h
      obtain ⟨m, rfl, _, hw⟩ := DataW.trod_int ht hx
      exact ⟨[.dI m], rfl, ⟨m, rfl, hw⟩, trivial⟩
    · rename_i ht
      cases h
      obtain ⟨s, rfl, _, hs⟩ := DataW.trod_string ht hx
      exact ⟨[.dS s.data.toList], rfl, ⟨s.data.toList, rfl, by simpa using hs⟩, trivial⟩
    · rename_i fs ht
      split at h
      · rename_i l hl
        cases hb : Nat.beq l.length (P.cellsOf t) with
        | false => rw [hb] at h; cases h
        | true =>
          rw [hb] at h; cases h
          have hlen := Nat.eq_of_beq_eq_true hb
          obtain ⟨xs, m, _, _, hcl, hxl, hg⟩ := DataW.trod_struct ht hx
          -- field by field
          have key : ∀ (l : List Field) (i o : Nat) (sh : List Kd), (∀ j : Nat, l[j]? = fs[i + j]?) → i + l.length = fs.size → flatF P (flatK P n) l o = some sh → o + sh.length = cs.length → ∃ row, RowK sh row (cs.drop o) := by
            intro l
            induction l with
            | nil =>
              intro i o sh _ _ hf ho
              simp [flatF] at hf; subst hf
              exact ⟨[], by rw [List.drop_eq_nil_of_le (by simp at ho; omega)]; trivial⟩
            | cons f l ih =>
              intro i o sh hi hsz hf ho
              simp only [flatF] at hf
              split at hf
              · rename_i a ha
                cases hc : (Nat.beq f.offset o && Nat.beq a.length (P.cellsOf f.type)) with
                | false => rw [hc] at hf; cases hf
                | true =>
                  rw [hc] at hf
                  obtain ⟨c1, c2⟩ := Bool.and_eq_true_iff.1 hc
                  have c1 := Nat.eq_of_beq_eq_true c1
                  have c2 := Nat.eq_of_beq_eq_true c2
                  simp only [cond_true] at hf
                  split at hf
                  · rename_i b hb'
                    cases hf
                    have hfi : fs[i]? = some f := by have := hi 0; simpa using this.symm
                    have h1 := hg i f hfi
                    have hil : i < xs.length := by rw [hxl]; simp at hsz; omega
                    rw [List.getElem?_eq_getElem hil] at h1
                    obtain ⟨r1, hr1⟩ := trod_flat n ha h1
                    simp only [List.length_append] at ho
                    obtain ⟨r2, hr2⟩ := ih (i + 1) (o + a.length) b (fun j => by have := hi (j + 1); simp at this; rw [this]; congr 1; omega) (by simp at hsz; omega) hb' (by omega)
                    refine ⟨r1 ++ r2, ?_⟩
                    have hsplit : cs.drop o = (cs.drop f.offset).take (P.cellsOf f.type) ++ cs.drop (o + a.length) := by
                      rw [c1, ← c2]
                      have := (List.take_append_drop a.length (cs.drop o)).symm
                      rw [List.drop_drop] at this
                      exact this
                    rw [hsplit]
                    exact hr1.append hr2
                  · cases hf
              · cases hf
          obtain ⟨row, hrow⟩ := key fs.toList 0 0 sh (fun j => by simp) (by simp) hl (by rw [hcl, Nat.zero_add, hlen])
          exact ⟨row, by simpa using hrow⟩
      · cases h
    · cases h
/-- A slice of such elements, as it reads. -/
structure SliceAt (w : World) (a : Addr) (len cap : Nat) (sh : List Kd) (rows : List (List Dat)) : Prop where
  spot : a.spot = none
  le : len ≤ cap
  n : rows.length = len
  at_ : ∃ c e lo hi, w.heap[a.block]? = some (.cells c e (lo, hi)) ∧ ∀ i, i < len → ∀ j kd, sh[j]? = some kd → c[a.off + (i * sh.length + j)]? = some (kdV kd ((rows.getD i []).getD j (.dI 0)))
  ok : ∀ i, i < len → ∀ j kd, sh[j]? = some kd → okD kd ((rows.getD i []).getD j (.dI 0))
  row : ∀ i, i < len → (rows.getD i []).length = sh.length
theorem open_rows {r : Reach} {b0 : Nat} {t e : TypeId} {v : Value} {d : DataW H} {p : List MemPlace} (n : Nat) {sh : List Kd} (ht : P.underlying t = some (.slice e)) (hsh : flatK P n e = some sh) (hk : P.cellsOf e = sh.length)
    (hv : Value.okWide P w r b0 t v) (h : DataW.Trod enc P w base spare held t v d p) : (v = .slice none 0 0) ∨ ∃ a len cap rows, v = .slice (some a) len cap ∧ len ≤ maxLen ∧ SliceAt w a len cap sh rows := by
  obtain ⟨a0, len0, cap0, rfl⟩ := okWide_slice ht hv
  obtain ⟨fuel, hf⟩ := h
  rcases DataW.trod_slice ht hf with ⟨h0, _⟩ | ⟨a, len, cap, elems, rest, m, _, hcs, _, hb, hl, hm, hlen, hel, _⟩
  · left; simpa [Value.cells] using h0
  · right
    have hcs' : Value.slice a0 len0 cap0 = .slice (some a) len cap := by simpa [Value.cells] using hcs
    obtain ⟨rfl, rfl, rfl⟩ : some a = a0 ∧ len = len0 ∧ cap = cap0 := by
      simp only [Value.slice.injEq] at hcs'
      exact ⟨hcs'.1.symm, hcs'.2.1.symm, hcs'.2.2.symm⟩
    simp only [Value.okWide, ht, Cell.okWide, Cell.ok] at hv
    obtain ⟨_, _, _, hspot, row0, cells0, hshape, _⟩ := hv
    obtain ⟨c, e0, fz, hc⟩ : ∃ c e0 fz, w.heap[a.block]? = some (.cells c e0 fz) := by
      unfold World.shape? at hshape
      split at hshape
      · rename_i c el fz hc; exact ⟨c, el, fz, hc⟩
      · cases hshape
    obtain ⟨lo, hi⟩ := fz
    have hrow : ∀ i, i < len → ∃ row, ∃ cs, w.cells? base (a.add (i * P.cellsOf e)) (P.cellsOf e) = some cs ∧ RowK sh row cs := fun i hi' => by
      have h1 := hel i hi'
      rw [List.getElem?_eq_getElem (by omega), Option.bind_eq_some_iff] at h1
      obtain ⟨cs, h2, h3⟩ := h1
      obtain ⟨row, h4⟩ := trod_flat n hsh h3
      exact ⟨row, cs, h2, h4⟩
    refine ⟨a, len, cap, (List.range len).map fun i => if h : i < len then Classical.choose (hrow i h) else [], rfl, by omega, ⟨hspot, hl, by simp, ⟨c, e0, lo, hi, hc, fun i hi' j kd hj => ?_⟩, fun i hi' j kd hj => ?_, fun i hi' => ?_⟩⟩
    all_goals
      have hget : ((List.range len).map fun i => if h : i < len then Classical.choose (hrow i h) else []).getD i [] = Classical.choose (hrow i hi') := by
        simp [List.getD_eq_getElem?_getD, hi']
      obtain ⟨cs, h2, h3⟩ := Classical.choose_spec (hrow i hi')
      rw [hget]
    · obtain ⟨_, hcl, h4⟩ := World.cells?_some h2
      have hjl := (List.getElem?_eq_some_iff.1 hj).1
      have h5 := h4 j (by rw [hk]; exact hjl)
      rw [(h3.get j kd hj).1] at h5
      have hadd : (a.add (i * P.cellsOf e)).add j = ⟨a.block, a.off + (i * sh.length + j), none⟩ := by
        obtain ⟨b, o, s⟩ := a
        simp only at hspot
        subst hspot
        rw [hk]
        unfold Addr.add
        by_cases h6 : i * sh.length = 0
        · by_cases h7 : j = 0
          · simp [h6, h7]
          · simp [h6, h7]
        · by_cases h7 : j = 0
          · simp [h6, h7]
          · simp [h6, h7, Nat.add_assoc]
      rw [hadd] at h5
      unfold World.cell? at h5
      simp only [hc] at h5
      simpa using h5
    · exact (h3.get j kd hj).2
    · exact h3.len.1
end
section
variable [Rho]
/-- Such a slice as an object that nobody may write. -/
theorem SliceAt.rep {w : World} {a : Addr} {len cap : Nat} {sh : List Kd} {rows : List (List Dat)} (h : SliceAt w a len cap sh rows) {μ : Mu} {id : Nat} {t : Tm} (ht : t.den.asL = rows) (hm : μ id = some ⟨a.block, a.off, cap, sh.length, len * sh.length⟩) : RepO μ id w (.seq sh t false) := by
  obtain ⟨c, e, lo, hi, h1, h2⟩ := h.at_
  refine ⟨_, c, e, lo, hi, hm, h1, ⟨rfl, by rw [ht, h.n]⟩, Nat.mul_le_mul_right _ h.le, fun h => (by cases h), fun h => (by cases h), fun i hi' j kd hj => ?_⟩
  rw [ht] at hi' ⊢
  exact h2 i (by rw [← h.n]; exact hi') j kd hj
theorem SliceAt.val {w : World} {a : Addr} {len cap : Nat} {sh : List Kd} {rows : List (List Dat)} (h : SliceAt w a len cap sh rows) (hk : 0 < sh.length) {μ : Mu} {id : Nat} {t : Tm} (ht : t.den.asL = rows) (hm : μ id = some ⟨a.block, a.off, cap, sh.length, len * sh.length⟩) :
    VR μ (.sslice id sh.length (.ci 0) (.llen t)) (.slice (some a) len cap) := by
  have e0 : (Tm.ci 0).den.asI = 0 := rfl
  have e1 : (Tm.llen t).den.asI = (len : Int) := by
    show (t.den.asL.length : Int) = _
    rw [ht, h.n]
  have hl := h.le
  refine ⟨_, hm, rfl, hk, by rw [e0]; omega, by rw [e1]; omega, ⟨?_, ?_⟩, .inl ?_⟩
  · rw [e0, e1]; simp
  · rw [e0, e1]; simpa using hl
  · rw [e0, e1]
    obtain ⟨b, o, s⟩ := a
    have hs := h.spot
    simp only at hs
    subst hs
    simp
end
end Go.Proofs.Ytamibbjpapkfeaa.Ab
