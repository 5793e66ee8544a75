import Derived.Test.YtamibbjpapkfeaaAbS0
import Derived.RowKit3
import Derived.Laws.Sem
namespace Go.Proofs.Ytamibbjpapkfeaa.Ab
set_option linter.unusedSimpArgs false
set_option linter.unusedVariables false
open Go
set_option linter.unusedSectionVars false

structure Loc where
  b : Nat
  s : Nat
  cap : Nat
  k : Nat
  ext : Nat
abbrev Mu := Nat → Option Loc
variable [Rho]

mutual
def VR (μ : Mu) : AV → Value → Prop
  | .bool b, c => c = .bool b
  | .int k n, c => c = .int k n
  | .str s, c => c = .string ⟨s.toArray⟩
  | .ptr id off, c => ∃ l, μ id = some l ∧ c = .pointer (some ⟨l.b, l.s + off, none⟩)
  | .nilPtr, c => c = .pointer none
  | .slice id off len cap, c => ∃ l, μ id = some l ∧ match cap with
    | .known n => c = .slice (some ⟨l.b, l.s + off, none⟩) len n
    | .unk k => 0 < k ∧ l.k = k ∧ off % k = 0 ∧ off + len * k ≤ l.ext ∧ (c = .slice (some ⟨l.b, l.s + off, none⟩) len (l.cap - off / k) ∨
        (len = 0 ∧ l.ext ≤ off ∧ ∃ o, c = .slice (some ⟨l.b, o, none⟩) 0 0))
  | .nilSlice, c => c = .slice none 0 0
  | .map id, c => ∃ l, μ id = some l ∧ c = .map (some l.b)
  | .nilMap, c => c = .map none
  | .func fn a b, c => ∃ x y, VRs μ a x ∧ VRs μ b y ∧ c = .func fn x.toArray y.toArray
  | .nilFunc, c => c = .nilFunc
  | .iface t v, c => ∃ x, VR μ v x ∧ c = .iface t x
  | .nilIface, c => c = .nilIface
  | .agg l, c => ∃ x, VRs μ l x ∧ c = .agg x.toArray
  | .tuple l, c => ∃ x, VRs μ l x ∧ c = .tuple x.toArray
  | .sbool t, c => c = .bool t.den.asB
  | .sint k t, c => c = .int k t.den.asI
  | .sstr t, c => c = .string ⟨t.den.asS.toArray⟩
  | .eptr id k i j, c => ∃ l, μ id = some l ∧ l.k = k ∧ 0 ≤ i.den.asI ∧ i.den.asI.toNat * k + k ≤ l.ext ∧ c = .pointer (some ⟨l.b, l.s + (i.den.asI.toNat * k + j), none⟩)
  | .sslice id k off len, c => ∃ l, μ id = some l ∧ l.k = k ∧ 0 < k ∧ 0 ≤ off.den.asI ∧ 0 ≤ len.den.asI ∧ ((off.den.asI.toNat + len.den.asI.toNat) * k ≤ l.ext ∧ off.den.asI.toNat + len.den.asI.toNat ≤ l.cap) ∧
      (c = .slice (some ⟨l.b, l.s + off.den.asI.toNat * k, none⟩) len.den.asI.toNat (l.cap - off.den.asI.toNat) ∨ (len.den.asI = 0 ∧ ∃ o, c = .slice (some ⟨l.b, o, none⟩) 0 0))
def VRs (μ : Mu) : List AV → List Value → Prop
  | [], c => c = []
  | v :: l, c => ∃ x r, VR μ v x ∧ VRs μ l r ∧ c = x :: r
end

def Ext (μ μ' : Mu) : Prop := ∀ id l, μ id = some l → μ' id = some l
theorem Ext.refl (μ : Mu) : Ext μ μ := fun _ _ h => h
theorem Ext.trans {a b c : Mu} (h : Ext a b) (k : Ext b c) : Ext a c := fun id l e => k id l (h id l e)

mutual
theorem VR.ext {μ μ' : Mu} (e : Ext μ μ') : ∀ (v : AV) (c : Value), VR μ v c → VR μ' v c
  | .bool _, _, h | .int _ _, _, h | .str _, _, h | .nilPtr, _, h | .nilSlice, _, h | .nilMap, _, h | .nilFunc, _, h | .nilIface, _, h | .sbool _, _, h | .sint _ _, _, h | .sstr _, _, h => by simpa [VR] using h
  | .ptr _ _, _, h => by obtain ⟨l, h1, h2⟩ := h; exact ⟨l, e _ _ h1, h2⟩
  | .eptr _ _ _ _, _, h => by obtain ⟨l, h1, h2⟩ := h; exact ⟨l, e _ _ h1, h2⟩
  | .sslice _ _ _ _, _, h => by obtain ⟨l, h1, h2⟩ := h; exact ⟨l, e _ _ h1, h2⟩
  | .slice _ _ _ _, _, h => by obtain ⟨l, h1, h2⟩ := h; exact ⟨l, e _ _ h1, h2⟩
  | .map _, _, h => by obtain ⟨l, h1, h2⟩ := h; exact ⟨l, e _ _ h1, h2⟩
  | .func _ a b, _, h => by obtain ⟨x, y, h1, h2, h3⟩ := h; exact ⟨x, y, VRs.ext e a x h1, VRs.ext e b y h2, h3⟩
  | .iface _ v, _, h => by obtain ⟨x, h1, h2⟩ := h; exact ⟨x, VR.ext e v x h1, h2⟩
  | .agg l, _, h => by obtain ⟨x, h1, h2⟩ := h; exact ⟨x, VRs.ext e l x h1, h2⟩
  | .tuple l, _, h => by obtain ⟨x, h1, h2⟩ := h; exact ⟨x, VRs.ext e l x h1, h2⟩
theorem VRs.ext {μ μ' : Mu} (e : Ext μ μ') : ∀ (v : List AV) (c : List Value), VRs μ v c → VRs μ' v c
  | [], _, h => h
  | v :: l, _, h => by obtain ⟨x, r, h1, h2, h3⟩ := h; exact ⟨x, r, VR.ext e v x h1, VRs.ext e l r h2, h3⟩
end

mutual
/-- A value that could be read under the smaller map reads the same under the greater one. -/
theorem VR.back {μ μ' : Mu} (e : Ext μ μ') : ∀ (v : AV) (c c0 : Value), VR μ v c0 → VR μ' v c → VR μ v c
  | .bool _, _, _, _, h | .int _ _, _, _, _, h | .str _, _, _, _, h | .nilPtr, _, _, _, h | .nilSlice, _, _, _, h | .nilMap, _, _, _, h | .nilFunc, _, _, _, h | .nilIface, _, _, _, h | .sbool _, _, _, _, h | .sint _ _, _, _, _, h | .sstr _, _, _, _, h => by simpa [VR] using h
  | .eptr _ _ _ _, _, _, h0, h => by
    obtain ⟨l, h1, _⟩ := h0; obtain ⟨l', h1', h2'⟩ := h
    rw [e _ _ h1] at h1'; cases h1'; exact ⟨l, h1, h2'⟩
  | .sslice _ _ _ _, _, _, h0, h => by
    obtain ⟨l, h1, _⟩ := h0; obtain ⟨l', h1', h2'⟩ := h
    rw [e _ _ h1] at h1'; cases h1'; exact ⟨l, h1, h2'⟩
  | .ptr _ _, _, _, h0, h => by
    obtain ⟨l, h1, _⟩ := h0; obtain ⟨l', h1', h2'⟩ := h
    rw [e _ _ h1] at h1'; cases h1'; exact ⟨l, h1, h2'⟩
  | .slice _ _ _ _, _, _, h0, h => by
    obtain ⟨l, h1, _⟩ := h0; obtain ⟨l', h1', h2'⟩ := h
    rw [e _ _ h1] at h1'; cases h1'; exact ⟨l, h1, h2'⟩
  | .map _, _, _, h0, h => by
    obtain ⟨l, h1, _⟩ := h0; obtain ⟨l', h1', h2'⟩ := h
    rw [e _ _ h1] at h1'; cases h1'; exact ⟨l, h1, h2'⟩
  | .func _ a b, _, _, h0, h => by
    obtain ⟨x0, y0, p, q, _⟩ := h0; obtain ⟨x, y, h1, h2, h3⟩ := h
    exact ⟨x, y, VRs.back e a x x0 p h1, VRs.back e b y y0 q h2, h3⟩
  | .iface _ v, _, _, h0, h => by
    obtain ⟨x0, p, _⟩ := h0; obtain ⟨x, h1, h2⟩ := h; exact ⟨x, VR.back e v x x0 p h1, h2⟩
  | .agg l, _, _, h0, h => by
    obtain ⟨x0, p, _⟩ := h0; obtain ⟨x, h1, h2⟩ := h; exact ⟨x, VRs.back e l x x0 p h1, h2⟩
  | .tuple l, _, _, h0, h => by
    obtain ⟨x0, p, _⟩ := h0; obtain ⟨x, h1, h2⟩ := h; exact ⟨x, VRs.back e l x x0 p h1, h2⟩
theorem VRs.back {μ μ' : Mu} (e : Ext μ μ') : ∀ (v : List AV) (c c0 : List Value), VRs μ v c0 → VRs μ' v c → VRs μ v c
  | [], _, _, _, h => h
  | v :: l, _, _, h0, h => by
    obtain ⟨x0, r0, p, q, _⟩ := h0; obtain ⟨x, r, h1, h2, h3⟩ := h
    exact ⟨x, r, VR.back e v x x0 p h1, VRs.back e l r r0 q h2, h3⟩
end
mutual
/-- A value without references reads alike under all maps. -/
theorem VR.flat {μ μ' : Mu} : ∀ (v : AV) (c : Value), flat v = true → VR μ v c → VR μ' v c
  | .bool _, _, _, h | .int _ _, _, _, h | .str _, _, _, h | .nilPtr, _, _, h | .nilSlice, _, _, h | .nilMap, _, _, h | .nilFunc, _, _, h | .nilIface, _, _, h | .sbool _, _, _, h | .sint _ _, _, _, h | .sstr _, _, _, h => by simpa [VR] using h
  | .ptr _ _, _, f, _ => by simp [Ab.flat] at f
  | .eptr _ _ _ _, _, f, _ => by simp [Ab.flat] at f
  | .sslice _ _ _ _, _, f, _ => by simp [Ab.flat] at f
  | .slice _ _ _ _, _, f, _ => by simp [Ab.flat] at f
  | .map _, _, f, _ => by simp [Ab.flat] at f
  | .func _ a b, _, f, h => by
    simp [Ab.flat] at f
    obtain ⟨x, y, h1, h2, h3⟩ := h; exact ⟨x, y, VRs.flat a x f.1 h1, VRs.flat b y f.2 h2, h3⟩
  | .iface _ v, _, f, h => by
    simp [Ab.flat] at f
    obtain ⟨x, h1, h2⟩ := h; exact ⟨x, VR.flat v x f h1, h2⟩
  | .agg l, _, f, h => by
    simp [Ab.flat] at f
    obtain ⟨x, h1, h2⟩ := h; exact ⟨x, VRs.flat l x f h1, h2⟩
  | .tuple l, _, f, h => by
    simp [Ab.flat] at f
    obtain ⟨x, h1, h2⟩ := h; exact ⟨x, VRs.flat l x f h1, h2⟩
theorem VRs.flat {μ μ' : Mu} : ∀ (v : List AV) (c : List Value), flats v = true → VRs μ v c → VRs μ' v c
  | [], _, _, h => h
  | v :: l, _, f, h => by
    simp [Ab.flats] at f
    obtain ⟨x, r, h1, h2, h3⟩ := h; exact ⟨x, r, VR.flat v x f.1 h1, VRs.flat l r f.2 h2, h3⟩
end

theorem VRs.length {μ : Mu} : ∀ {v : List AV} {c : List Value}, VRs μ v c → c.length = v.length
  | [], _, h => by cases h; rfl
  | _ :: l, _, h => by obtain ⟨x, r, _, h2, rfl⟩ := h; simp [VRs.length h2]
theorem VRs.get {μ : Mu} : ∀ {v : List AV} {c : List Value}, VRs μ v c → ∀ (i : Nat) (x : AV), v[i]? = some x → ∃ y, c[i]? = some y ∧ VR μ x y
  | [], _, _, i, x, hx => by simp at hx
  | a :: l, _, h, i, x, hx => by
    obtain ⟨y, r, h1, h2, rfl⟩ := h
    cases i with
    | zero => simp at hx; subst hx; exact ⟨y, rfl, h1⟩
    | succ i => simp at hx; simpa using VRs.get h2 i x hx
theorem VRs.append {μ : Mu} : ∀ {a b : List AV} {x y : List Value}, VRs μ a x → VRs μ b y → VRs μ (a ++ b) (x ++ y)
  | [], _, _, _, h, k => by cases h; exact k
  | _ :: l, _, _, _, h, k => by obtain ⟨y, r, h1, h2, rfl⟩ := h; exact ⟨y, _, h1, VRs.append h2 k, rfl⟩
theorem VRs.of_get {μ : Mu} : ∀ {v : List AV} {c : List Value}, c.length = v.length → (∀ (i : Nat) (x : AV) (y : Value), v[i]? = some x → c[i]? = some y → VR μ x y) → VRs μ v c
  | [], c, h, _ => by cases c with | nil => rfl | cons _ _ => simp at h
  | a :: l, c, h, g => by
    cases c with
    | nil => simp at h
    | cons y r =>
      exact ⟨y, r, g 0 a y rfl rfl, VRs.of_get (by simpa using h) (fun i x z hx hz => g (i + 1) x z (by simpa using hx) (by simpa using hz)), rfl⟩
theorem VRs.drop {μ : Mu} {v : List AV} {c : List Value} (h : VRs μ v c) (n : Nat) : VRs μ (v.drop n) (c.drop n) :=
  VRs.of_get (by simp [h.length]) fun i x y hx hy => by
    rw [List.getElem?_drop] at hx hy
    obtain ⟨z, hz, hv⟩ := h.get _ x hx
    rw [hz] at hy; cases hy; exact hv
theorem VRs.take {μ : Mu} {v : List AV} {c : List Value} (h : VRs μ v c) (n : Nat) : VRs μ (v.take n) (c.take n) :=
  VRs.of_get (by simp [h.length]) fun i x y hx hy => by
    rw [List.getElem?_take] at hx hy
    split at hx
    · rename_i hlt
      rw [if_pos hlt] at hy
      obtain ⟨z, hz, hv⟩ := h.get _ x hx
      rw [hz] at hy; cases hy; exact hv
    · cases hx

/-! ### rows of cells -/
theorem takeN_eq : ∀ (vs : List AV) (n : Nat) (l : List AV), takeN vs n = some l → l = vs.take n ∧ n ≤ vs.length
  | _, 0, l, h => by simp [takeN] at h; simp [h.symm]
  | [], n + 1, l, h => by simp [takeN] at h
  | v :: vs, n + 1, l, h => by
    simp only [takeN] at h
    cases ht : takeN vs n with
    | none => simp [ht] at h
    | some r =>
      simp [ht] at h
      obtain ⟨h1, h2⟩ := takeN_eq vs n r ht
      subst h; subst h1; exact ⟨rfl, by simpa using h2⟩
theorem cellsAt_eq {vs : List AV} {off n : Nat} {l : List AV} (h : cellsAt vs off n = some l) : l = (vs.drop off).take n ∧ (n = 0 ∨ off + n ≤ vs.length) := by
  obtain ⟨h1, h2⟩ := takeN_eq _ _ _ h
  refine ⟨h1, ?_⟩
  rw [List.length_drop] at h2; omega
theorem over_eq : ∀ (vs new l : List AV), over vs new = some l → l = new ++ vs.drop new.length ∧ new.length ≤ vs.length
  | vs, [], l, h => by cases vs <;> simp [over] at h <;> simp [h.symm]
  | [], _ :: _, l, h => by simp [over] at h
  | _ :: vs, n :: ns, l, h => by
    simp only [over] at h
    cases ht : over vs ns with
    | none => simp [ht] at h
    | some r =>
      simp [ht] at h
      obtain ⟨h1, h2⟩ := over_eq vs ns r ht
      subst h; subst h1; exact ⟨rfl, by simpa using h2⟩
theorem putAt_eq : ∀ (vs : List AV) (off : Nat) (new l : List AV), putAt vs off new = some l →
    l = vs.take off ++ new ++ vs.drop (off + new.length) ∧ off + new.length ≤ vs.length
  | vs, 0, new, l, h => by
    have h' : over vs new = some l := by cases vs <;> exact h
    obtain ⟨h1, h2⟩ := over_eq _ _ _ h'
    simp [h1, h2]
  | [], _ + 1, _, l, h => by simp [putAt] at h
  | v :: vs, off + 1, new, l, h => by
    simp only [putAt] at h
    cases ht : putAt vs off new with
    | none => simp [ht] at h
    | some r =>
      simp [ht] at h
      obtain ⟨h1, h2⟩ := putAt_eq vs off new r ht
      subst h; subst h1
      refine ⟨by simp [Nat.add_right_comm], by simp; omega⟩
theorem putAt_len {vs : List AV} {off : Nat} {new l : List AV} (h : putAt vs off new = some l) : l.length = vs.length := by
  obtain ⟨h1, h2⟩ := putAt_eq _ _ _ _ h
  subst h1; simp; omega
theorem putAt_get {vs : List AV} {off : Nat} {new l : List AV} (h : putAt vs off new = some l) (i : Nat) :
    l[i]? = if off ≤ i ∧ i < off + new.length then new[i - off]? else vs[i]? := by
  obtain ⟨h1, h2⟩ := putAt_eq _ _ _ _ h
  subst h1
  by_cases h3 : i < off
  · rw [if_neg (by omega), List.append_assoc, List.getElem?_append_left (by simp; omega), List.getElem?_take, if_pos h3]
  · by_cases h4 : i < off + new.length
    · rw [if_pos (by omega), List.append_assoc, List.getElem?_append_right (by simp; omega), List.getElem?_append_left (by simp; omega)]
      congr 1; simp; omega
    · rw [if_neg (by omega), List.getElem?_append_right (by simp; omega), List.getElem?_drop]
      congr 1; simp; omega

/-! ### the heap -/
def owned : AObj → Bool
  | .row _ own _ => own
  | .map _ => true
  | .bytes _ own => own
  | .seq _ _ own => own
/-- A cell of a row that is not told, by its kind. -/
def kdV : Kd → Dat → Value
  | .kb, d => .bool d.asB
  | .ki k, d => .int k d.asI
  | .ks, d => .string ⟨d.asS.toArray⟩
/-- An entry of a map. -/
def ERs (μ : Mu) (es : List (AV × AV)) (ents : List MapEntry) : Prop :=
  VRs μ (es.map (·.1)) (ents.map (·.key)) ∧ VRs μ (es.map (·.2)) (ents.map (·.val))
def RepO (μ : Mu) (id : Nat) (w : World) : AObj → Prop
  | .row vs own _ => ∃ l c e lo hi, μ id = some l ∧ w.heap[l.b]? = some (.cells c e (lo, hi)) ∧ vs.length = l.ext ∧ l.ext ≤ l.cap * l.k ∧ l.s + l.cap * l.k ≤ c.size ∧
      (own = true → c.size ≤ lo ∨ hi ≤ lo) ∧ (∀ i x, vs[i]? = some x → isCell x = true ∧ ∃ y, c[l.s + i]? = some y ∧ VR μ x y)
  | .map es => ∃ l ents clock es', μ id = some l ∧ w.heap[l.b]? = some (.map ents clock) ∧ es'.Perm es ∧ ERs μ es' ents.toList
  | .bytes t own => ∃ l c e lo hi, μ id = some l ∧ w.heap[l.b]? = some (.cells c e (lo, hi)) ∧ (l.k = 1 ∧ t.den.asS.length = l.ext) ∧ l.ext ≤ l.cap * l.k ∧ l.s + l.cap * l.k ≤ c.size ∧
      (own = true → c.size ≤ lo ∨ hi ≤ lo) ∧ (∀ i x, t.den.asS[i]? = some x → c[l.s + i]? = some (.int .u8 (x.toNat : Int)))
  | .seq sh t own => ∃ l c e lo hi, μ id = some l ∧ w.heap[l.b]? = some (.cells c e (lo, hi)) ∧ (l.k = sh.length ∧ t.den.asL.length * l.k = l.ext) ∧ l.ext ≤ l.cap * l.k ∧ (own = true → l.s + l.cap * l.k ≤ c.size) ∧
      (own = true → c.size ≤ lo ∨ hi ≤ lo) ∧ (∀ i, i < t.den.asL.length → ∀ j kd, sh[j]? = some kd → c[l.s + (i * l.k + j)]? = some (kdV kd ((t.den.asL.getD i []).getD j (.dI 0))))
structure Rep (μ : Mu) (h : Nat → Option AObj) (w : World) : Prop where
  obj : ∀ id o, h id = some o → RepO μ id w o
  inj : ∀ i j oi oj li lj, h i = some oi → h j = some oj → i ≠ j → owned oi = true ∨ owned oj = true → μ i = some li → μ j = some lj → li.b ≠ lj.b
/-- Block b holds an object of h's that may be written. -/
def Mine (μ : Mu) (h : Nat → Option AObj) (b : Nat) : Prop := ∃ j o l, h j = some o ∧ owned o = true ∧ μ j = some l ∧ l.b = b
structure Evo (μ : Mu) (h : Nat → Option AObj) (n : Nat) (w : World) (μ' : Mu) (h' : Nat → Option AObj) (n' : Nat) (w' : World) : Prop where
  ext : Ext μ μ'
  rep : Rep μ' h' w'
  lo : n ≤ n'
  dom : ∀ id, n' ≤ id → μ' id = none
  old : ∀ id l, μ' id = some l → μ id = none → n ≤ id ∧ (w.heap.size ≤ l.b ∨ Mine μ h l.b)
  keep : ∀ b, b < w.heap.size → ¬ Mine μ h b → w'.heap[b]? = w.heap[b]?
  mine : ∀ b, Mine μ' h' b → b < w.heap.size → Mine μ h b
  live : ∀ id o, h' id = some o → (∃ o0, h id = some o0) ∨ n ≤ id
  size : w.heap.size ≤ w'.heap.size
  os : w'.os = w.os
  tape : w'.tape = w.tape
  output : w'.output = w.output
def Dom (μ : Mu) (n : Nat) : Prop := ∀ id, n ≤ id → μ id = none
theorem RepO.mu {μ : Mu} {id : Nat} {w : World} {o : AObj} (h : RepO μ id w o) : ∃ l, μ id = some l ∧ l.b < w.heap.size := by
  cases o with
  | row vs own lf =>
    obtain ⟨l, c, e, lo, hi, h1, h2, _⟩ := h
    exact ⟨l, h1, (Array.getElem?_eq_some_iff.1 h2).1⟩
  | map es =>
    obtain ⟨l, c, e, lo, h1, h2, _⟩ := h
    exact ⟨l, h1, (Array.getElem?_eq_some_iff.1 h2).1⟩
  | bytes t own =>
    obtain ⟨l, c, e, lo, hi, h1, h2, _⟩ := h
    exact ⟨l, h1, (Array.getElem?_eq_some_iff.1 h2).1⟩
  | seq sh t own =>
    obtain ⟨l, c, e, lo, hi, h1, h2, _⟩ := h
    exact ⟨l, h1, (Array.getElem?_eq_some_iff.1 h2).1⟩
theorem Rep.lt {μ : Mu} {h : Nat → Option AObj} {w : World} (r : Rep μ h w) {n : Nat} (d : Dom μ n) {id : Nat} {o : AObj} (e : h id = some o) : id < n := by
  obtain ⟨l, hl, _⟩ := (r.obj id o e).mu
  rcases Nat.lt_or_ge id n with h' | h'
  · exact h'
  · rw [d id h'] at hl; cases hl
theorem Mine.lt {μ : Mu} {h : Nat → Option AObj} {w : World} (r : Rep μ h w) {b : Nat} (m : Mine μ h b) : b < w.heap.size := by
  obtain ⟨j, o, l, h1, _, h3, rfl⟩ := m
  obtain ⟨l', hl, hlt⟩ := (r.obj j o h1).mu
  rw [h3] at hl; cases hl; exact hlt
/-- An object whose block is as it was. -/
theorem RepO.keep {μ μ' : Mu} (e : Ext μ μ') {id : Nat} {w w' : World} {o : AObj} (h : RepO μ id w o) (k : ∀ l, μ id = some l → w'.heap[l.b]? = w.heap[l.b]?) : RepO μ' id w' o := by
  cases o with
  | row vs own lf =>
    obtain ⟨l, c, t, lo, hi, h1, h2, h3, h4, h5, h6, h7⟩ := h
    refine ⟨l, c, t, lo, hi, e _ _ h1, by rw [k l h1, h2], h3, h4, h5, h6, fun i x hx => ?_⟩
    obtain ⟨h8, y, h9, h10⟩ := h7 i x hx
    exact ⟨h8, y, h9, h10.ext e⟩
  | map es =>
    obtain ⟨l, ents, clock, es', h1, h2, h3, h4, h5⟩ := h
    exact ⟨l, ents, clock, es', e _ _ h1, by rw [k l h1, h2], h3, h4.ext e, h5.ext e⟩
  | bytes t own =>
    obtain ⟨l, c, t, lo, hi, h1, h2, h3⟩ := h
    exact ⟨l, c, t, lo, hi, e _ _ h1, by rw [k l h1, h2], h3⟩
  | seq sh t own =>
    obtain ⟨l, c, t, lo, hi, h1, h2, h3⟩ := h
    exact ⟨l, c, t, lo, hi, e _ _ h1, by rw [k l h1, h2], h3⟩
theorem Evo.refl {μ : Mu} {h : Nat → Option AObj} {n : Nat} {w : World} (r : Rep μ h w) (d : Dom μ n) : Evo μ h n w μ h n w :=
  ⟨Ext.refl μ, r, Nat.le_refl _, d, fun id l h1 h2 => (by rw [h2] at h1; cases h1), fun _ _ _ => rfl, fun _ m _ => m, fun id o h => .inl ⟨o, h⟩, Nat.le_refl _, rfl, rfl, rfl⟩
theorem Evo.trans {μ μ1 μ2 : Mu} {h h1 h2 : Nat → Option AObj} {n n1 n2 : Nat} {w w1 w2 : World} (a : Evo μ h n w μ1 h1 n1 w1) (b : Evo μ1 h1 n1 w1 μ2 h2 n2 w2) : Evo μ h n w μ2 h2 n2 w2 := by
  refine ⟨a.ext.trans b.ext, b.rep, Nat.le_trans a.lo b.lo, b.dom, fun id l h3 h4 => ?_, fun k hk hm => ?_, fun k m hk => a.mine k (b.mine k m (Nat.lt_of_lt_of_le hk a.size)) hk, fun id o h => ?_, Nat.le_trans a.size b.size, b.os.trans a.os, b.tape.trans a.tape, b.output.trans a.output⟩
  · cases h5 : μ1 id with
    | some l1 =>
      have := b.ext id l1 h5
      rw [this] at h3; cases h3
      exact a.old id l h5 h4
    | none =>
      obtain ⟨p, q⟩ := b.old id l h3 h5
      refine ⟨Nat.le_trans a.lo p, ?_⟩
      rcases q with q | q
      · exact .inl (Nat.le_trans a.size q)
      · rcases Nat.lt_or_ge l.b w.heap.size with h' | h'
        · exact .inr (a.mine _ q h')
        · exact .inl h'
  · rw [b.keep k (Nat.lt_of_lt_of_le hk a.size) (fun hm' => hm (a.mine k hm' hk)), a.keep k hk hm]
  · rcases b.live id o h with ⟨o1, h1⟩ | h1
    · exact a.live id o1 h1
    · exact .inr (Nat.le_trans a.lo h1)

/-! ### what happens to a heap -/
theorem look_nil (id : Nat) : look [] id = none := rfl
theorem look_cons (p : Nat × AObj) (l : List (Nat × AObj)) (id : Nat) : look (p :: l) id = bif Nat.beq p.1 id then some p.2 else look l id := by
  show @Bool.rec (fun _ => Option AObj) (look l id) (some p.2) (Nat.beq p.1 id) = _
  cases Nat.beq p.1 id <;> rfl
theorem look_repl (l : List (Nat × AObj)) (id : Nat) (o : AObj) (j : Nat) : look (repl l id o) j = if j = id then (look l id).map (fun _ => o) else look l j := by
  induction l with
  | nil => simp [repl, look_nil]
  | cons p l ih =>
    simp only [repl, look_cons]
    cases hp : Nat.beq p.1 id with
    | true =>
      have hp' : p.1 = id := Nat.eq_of_beq_eq_true hp
      simp only [cond_true, look_cons]
      by_cases hj : j = id
      · subst hj; simp [hp]
      · have : Nat.beq p.1 j = false := by
          cases h : Nat.beq p.1 j with
          | false => rfl
          | true => exact absurd ((Nat.eq_of_beq_eq_true h).symm.trans hp') hj
        simp [this, hj]
    | false =>
      simp only [cond_false, look_cons, ih]
      by_cases hj : j = id
      · subst hj; simp [hp]
      · simp [hj]
theorem look_drp (l : List (Nat × AObj)) (id j : Nat) : look (drp l id) j = if j = id then none else look l j := by
  induction l with
  | nil => simp [drp, look_nil]
  | cons p l ih =>
    simp only [drp, look_cons]
    cases hp : Nat.beq p.1 id with
    | true =>
      have hp' : p.1 = id := Nat.eq_of_beq_eq_true hp
      simp only [cond_true, ih]
      by_cases hj : j = id
      · rw [if_pos hj, if_pos hj]
      · have : Nat.beq p.1 j = false := by
          cases h : Nat.beq p.1 j with
          | false => rfl
          | true => exact absurd ((Nat.eq_of_beq_eq_true h).symm.trans hp') hj
        simp [this, hj]
    | false =>
      simp only [cond_false, look_cons, ih]
      by_cases hj : j = id
      · subst hj; simp [hp]
      · simp only [if_neg hj]
theorem get_upd (H : Heap) (id : Nat) (o : AObj) (j : Nat) : (H.upd id o).get j = if j = id then (H.get id).map (fun _ => o) else H.get j := look_repl _ _ _ _
theorem get_kill (H : Heap) (id j : Nat) : (H.kill id).get j = if j = id then none else H.get j := look_drp _ _ _
theorem get_new (H : Heap) (o : AObj) (j : Nat) : (H.new o).get j = if j = H.next then some o else H.get j := by
  show look ((H.next, o) :: H.objs) j = _
  simp only [look_cons]
  by_cases h : j = H.next
  · subst h; simp
  · have : Nat.beq H.next j = false := by
      cases h' : Nat.beq H.next j with
      | false => rfl
      | true => exact absurd (Nat.eq_of_beq_eq_true h').symm h
    simp [this, h]; rfl

def setMu (μ : Mu) (id : Nat) (l : Loc) : Mu := fun j => if j = id then some l else μ j
theorem Ext.set {μ : Mu} {id : Nat} {l : Loc} (h : μ id = none) : Ext μ (setMu μ id l) := fun j m hj => by
  unfold setMu
  split
  · rename_i e; subst e; rw [h] at hj; cases hj
  · exact hj

/-- w' is w with one more block; the tape may have been asked. -/
structure Plus (w : World) (o : Obj) (w' : World) : Prop where
  heap : w'.heap = w.heap.push o
  os : w'.os = w.os
  tape : w'.tape = w.tape
  output : w'.output = w.output
theorem Plus.refl (w : World) (o : Obj) : Plus w o { w with heap := w.heap.push o } := ⟨rfl, rfl, rfl, rfl⟩
theorem Plus.old {w w' : World} {o : Obj} (p : Plus w o w') {b : Nat} (h : b < w.heap.size) : w'.heap[b]? = w.heap[b]? := by
  rw [p.heap, Array.getElem?_push, if_neg (by omega)]
theorem Plus.at {w w' : World} {o : Obj} (p : Plus w o w') : w'.heap[w.heap.size]? = some o := by
  rw [p.heap]; simp
theorem Plus.size {w w' : World} {o : Obj} (p : Plus w o w') : w'.heap.size = w.heap.size + 1 := by
  rw [p.heap]; simp

/-- A new object in a new block. -/
theorem evo_new {μ : Mu} {H : Heap} {w w' : World} (r : Rep μ H.get w) (d : Dom μ H.next) {obj : Obj} (p : Plus w obj w') (o : AObj) (l : Loc)
    (hb : l.b = w.heap.size) (ho : ∀ μ', Ext μ μ' → μ' H.next = some l → RepO μ' H.next w' o) :
    Evo μ H.get H.next w (setMu μ H.next l) (H.new o).get (H.new o).next w' := by
  have hd := d H.next (Nat.le_refl _)
  have he : Ext μ (setMu μ H.next l) := Ext.set hd
  have hne : ∀ {id o}, H.get id = some o → id ≠ H.next := fun h => Nat.ne_of_lt (r.lt d h)
  refine ⟨he, ⟨fun id o h => ?_, fun i j oi oj li lj h1 h2 hij ho h3 h4 => ?_⟩, Nat.le_succ _, fun id h => ?_, fun id m h1 h2 => ?_, fun b h _ => p.old h, fun b m h => ?_, fun id o h => ?_, by rw [p.size]; omega, p.os, p.tape, p.output⟩
  · rw [get_new] at h
    split at h
    · rename_i hid
      cases h; subst hid
      exact ho _ he (by simp [setMu])
    · refine (r.obj id o h).keep he fun m hm => ?_
      obtain ⟨m', hm', hlt⟩ := (r.obj id o h).mu
      rw [hm] at hm'; cases hm'
      exact p.old hlt
  · rw [get_new] at h1 h2
    have hb' : ∀ {k ok lk}, H.get k = some ok → setMu μ H.next l k = some lk → lk.b < w.heap.size := fun {k ok lk} h h' => by
      obtain ⟨m', hm', hlt⟩ := (r.obj k ok h).mu
      simp [setMu, hne h] at h'
      rw [h'] at hm'; cases hm'; exact hlt
    split at h1
    · rename_i hi
      rw [if_neg (by omega)] at h2
      have h5 := hb' h2 h4
      simp [setMu, hi] at h3; subst h3; omega
    · split at h2
      · rename_i hj
        have h5 := hb' h1 h3
        simp [setMu, hj] at h4; subst h4; omega
      · simp [setMu, hne h1] at h3
        simp [setMu, hne h2] at h4
        exact r.inj i j oi oj li lj h1 h2 hij ho h3 h4
  · have : H.next < id := h
    simp [setMu, Nat.ne_of_gt this]
    exact d id (by omega)
  · unfold setMu at h1
    split at h1
    · rename_i hid; cases h1; exact ⟨by omega, .inl (by omega)⟩
    · rw [h2] at h1; cases h1
  · obtain ⟨j, o, m, h1, h2, h3, h4⟩ := m
    rw [get_new] at h1
    split at h1
    · rename_i hj
      simp [setMu, hj] at h3; subst h3; omega
    · simp [setMu, hne h1] at h3
      exact ⟨j, o, m, h1, h2, h3, h4⟩
  · rw [get_new] at h
    split at h
    · exact .inr (by omega)
    · exact .inl ⟨o, h⟩
/-- One owned object is another one now; no other block is. -/
theorem evo_upd {μ : Mu} {H : Heap} {w w' : World} (r : Rep μ H.get w) (d : Dom μ H.next) {id : Nat} {o o' : AObj} (hg : H.get id = some o) (hown : owned o = true)
    {l : Loc} (hl : μ id = some l) (hk : ∀ b, b ≠ l.b → w'.heap[b]? = w.heap[b]?) (hs : w'.heap.size = w.heap.size) (hos : w'.os = w.os) (htp : w'.tape = w.tape) (hou : w'.output = w.output)
    (ho : RepO μ id w' o') : Evo μ H.get H.next w μ (H.upd id o').get (H.upd id o').next w' := by
  have hgu : ∀ j, (H.upd id o').get j = if j = id then some o' else H.get j := fun j => by rw [get_upd, hg]; rfl
  refine ⟨Ext.refl μ, ⟨fun j oj h => ?_, fun i j oi oj li lj h1 h2 hij hoo h3 h4 => ?_⟩, Nat.le_refl _, d, fun j m h1 h2 => (by rw [h2] at h1; cases h1), fun b _ hm => hk b fun hb => hm ⟨id, o, l, hg, hown, hl, hb.symm⟩, fun b m _ => ?_, fun j oj h => ?_, by omega, hos, htp, hou⟩
  · rw [hgu] at h
    split at h
    · rename_i e; cases h; subst e; exact ho
    · rename_i e
      refine (r.obj j oj h).keep (Ext.refl μ) fun m hm => hk _ fun hb => ?_
      exact r.inj j id oj o m l h hg e (.inr hown) hm hl hb
  · rw [hgu] at h1 h2
    split at h1
    · rename_i e1
      split at h2
      · rename_i e2; omega
      · subst e1
        rw [hl] at h3; cases h3
        exact r.inj i j o oj l lj hg h2 hij (.inl hown) hl h4
    · split at h2
      · rename_i e2; subst e2
        rw [hl] at h4; cases h4
        exact r.inj i j oi o li l h1 hg hij (.inr hown) h3 hl
      · exact r.inj i j oi oj li lj h1 h2 hij hoo h3 h4
  · obtain ⟨j, oj, m, h1, h2, h3, h4⟩ := m
    rw [hgu] at h1
    split at h1
    · rename_i e; subst e
      rw [hl] at h3; cases h3
      exact ⟨j, o, l, hg, hown, hl, h4⟩
    · exact ⟨j, oj, m, h1, h2, h3, h4⟩
  · rw [hgu] at h
    split at h
    · rename_i e; subst e; exact .inl ⟨o, hg⟩
    · exact .inl ⟨oj, h⟩
/-- An object is let go. -/
theorem evo_kill {μ : Mu} {H : Heap} {w : World} (r : Rep μ H.get w) (d : Dom μ H.next) (id : Nat) : Evo μ H.get H.next w μ (H.kill id).get (H.kill id).next w := by
  have hgk : ∀ j o, (H.kill id).get j = some o → H.get j = some o ∧ j ≠ id := fun j o h => by
    rw [get_kill] at h
    split at h
    · cases h
    · rename_i e; exact ⟨h, e⟩
  refine ⟨Ext.refl μ, ⟨fun j oj h => r.obj j oj (hgk _ _ h).1, fun i j oi oj li lj h1 h2 => r.inj i j oi oj li lj (hgk _ _ h1).1 (hgk _ _ h2).1⟩, Nat.le_refl _, d, fun j m h1 h2 => (by rw [h2] at h1; cases h1), fun _ _ _ => rfl, fun b m _ => ?_, fun j o h => .inl ⟨o, (hgk _ _ h).1⟩, Nat.le_refl _, rfl, rfl, rfl⟩
  obtain ⟨j, oj, m, h1, h2, h3, h4⟩ := m
  exact ⟨j, oj, m, (hgk _ _ h1).1, h2, h3, h4⟩
/-- An object goes over into a new one in the same block. -/
theorem evo_move {μ : Mu} {H : Heap} {w w' : World} (r : Rep μ H.get w) (d : Dom μ H.next) {id : Nat} {o o' : AObj} (hg : H.get id = some o) (hown : owned o = true)
    {l l' : Loc} (hl : μ id = some l) (hb : l'.b = l.b) (hk : ∀ b, b ≠ l.b → w'.heap[b]? = w.heap[b]?) (hs : w'.heap.size = w.heap.size) (hos : w'.os = w.os) (htp : w'.tape = w.tape) (hou : w'.output = w.output)
    (ho : ∀ μ', Ext μ μ' → μ' H.next = some l' → RepO μ' H.next w' o') : Evo μ H.get H.next w (setMu μ H.next l') ((H.kill id).new o').get ((H.kill id).new o').next w' := by
  have hd := d H.next (Nat.le_refl _)
  have he : Ext μ (setMu μ H.next l') := Ext.set hd
  have hne : ∀ {id o}, H.get id = some o → id ≠ H.next := fun h => Nat.ne_of_lt (r.lt d h)
  have hnx : (H.kill id).next = H.next := rfl
  have hgn : ∀ j oj, ((H.kill id).new o').get j = some oj → (j = H.next ∧ oj = o') ∨ (H.get j = some oj ∧ j ≠ id ∧ j ≠ H.next) := fun j oj h => by
    rw [get_new, hnx] at h
    split at h
    · rename_i e; cases h; exact .inl ⟨e, rfl⟩
    · rename_i e
      rw [get_kill] at h
      split at h
      · cases h
      · rename_i e2; exact .inr ⟨h, e2, e⟩
  have hmu : ∀ j, j ≠ H.next → setMu μ H.next l' j = μ j := fun j h => by simp [setMu, h]
  have hmn : setMu μ H.next l' H.next = some l' := by simp [setMu]
  refine ⟨he, ⟨fun j oj h => ?_, fun i j oi oj li lj h1 h2 hij hoo h3 h4 => ?_⟩, Nat.le_succ _, fun j h => ?_, fun j m h1 h2 => ?_, fun b _ hm => hk b fun hb => hm ⟨id, o, l, hg, hown, hl, hb.symm⟩, fun b m _ => ?_, fun j oj h => ?_, by omega, hos, htp, hou⟩
  · rcases hgn j oj h with ⟨rfl, rfl⟩ | ⟨h1, h2, h3⟩
    · exact ho _ he hmn
    · refine (r.obj j oj h1).keep he fun m hm => hk _ fun hb => ?_
      exact r.inj j id oj o m l h1 hg h2 (.inr hown) hm hl hb
  · rcases hgn i oi h1 with ⟨rfl, rfl⟩ | ⟨h5, h6, h7⟩
    · rcases hgn j oj h2 with ⟨rfl, rfl⟩ | ⟨h8, h9, h10⟩
      · exact absurd rfl hij
      · rw [hmn] at h3; cases h3
        rw [hmu j h10] at h4
        rw [hb]
        exact r.inj id j o oj l lj hg h8 (Ne.symm h9) (.inl hown) hl h4
    · rcases hgn j oj h2 with ⟨rfl, rfl⟩ | ⟨h8, h9, h10⟩
      · rw [hmn] at h4; cases h4
        rw [hmu i h7] at h3
        rw [hb]
        exact r.inj i id oi o li l h5 hg h6 (.inr hown) h3 hl
      · rw [hmu i h7] at h3
        rw [hmu j h10] at h4
        exact r.inj i j oi oj li lj h5 h8 hij hoo h3 h4
  · have : H.next < j := h
    rw [hmu j (by omega)]
    exact d j (by omega)
  · by_cases e : j = H.next
    · subst e
      rw [hmn] at h1; cases h1
      exact ⟨Nat.le_refl _, .inr ⟨id, o, l, hg, hown, hl, hb.symm⟩⟩
    · rw [hmu j e, h2] at h1; cases h1
  · obtain ⟨j, oj, m, h1, h2, h3, h4⟩ := m
    rcases hgn j oj h1 with ⟨rfl, rfl⟩ | ⟨h5, h6, h7⟩
    · rw [hmn] at h3; cases h3
      exact ⟨id, o, l, hg, hown, hl, by omega⟩
    · rw [hmu j h7] at h3
      exact ⟨j, oj, m, h5, h2, h3, h4⟩
  · rcases hgn j oj h with ⟨rfl, rfl⟩ | ⟨h5, h6, h7⟩
    · exact .inr (Nat.le_refl _)
    · exact .inl ⟨oj, h5⟩

/-! ### what the model's small programs do at such objects -/
section
variable {P : Program}
theorem run_bind {α β : Type} (s : Sem α) (f : α → Sem β) (w : World) : (s >>= f).run P w = match s.run P w with
    | .ok a w' => (f a).run P w'
    | .halt h w' => .halt h w' := by rw [Sem.run_bind]; rfl
theorem run_load {w : World} {a : Addr} {v : Value} (h : w.cell? a = some v) : (load a).run P w = .ok v w := by
  simp [load, Sem.run, h]
theorem cell_row {w : World} {l : Loc} {c : Array Value} {e : TypeId} {fz : Nat × Nat} (h : w.heap[l.b]? = some (.cells c e fz)) (o : Nat) : w.cell? ⟨l.b, o, none⟩ = c[o]? := by
  simp [World.cell?, h]
theorem add_addr (b o n : Nat) : (⟨b, o, none⟩ : Addr).add n = ⟨b, o + n, none⟩ := by
  unfold Addr.add
  split
  · subst_vars; rfl
  · rfl
theorem run_loadCellsFrom {w : World} (b o : Nat) : ∀ (n i : Nat) (acc : Array Value) (l : List Value), l.length = n → (∀ j x, l[j]? = some x → w.cell? ⟨b, o + i + j, none⟩ = some x) →
    (loadCellsFrom ⟨b, o, none⟩ i n acc).run P w = .ok (acc ++ l.toArray) w
  | 0, i, acc, l, hl, _ => by
    have : l = [] := List.eq_nil_of_length_eq_zero hl
    subst this
    simp [loadCellsFrom, pure, Sem.run]
  | n + 1, i, acc, l, hl, h => by
    cases l with
    | nil => simp at hl
    | cons x l =>
      have h0 := h 0 x rfl
      simp only [loadCellsFrom, run_bind, add_addr]
      rw [run_load (by simpa using h0)]
      simp only []
      rw [run_loadCellsFrom b o n (i + 1) (acc.push x) l (by simpa using hl) (fun j y hj => by
        have := h (j + 1) y (by simpa using hj)
        rw [← this]; congr 2; omega)]
      simp
theorem run_loadCells {w : World} (b o n : Nat) (l : List Value) (hl : l.length = n) (h : ∀ j x, l[j]? = some x → w.cell? ⟨b, o + j, none⟩ = some x) :
    (loadCells ⟨b, o, none⟩ n).run P w = .ok l.toArray w := by
  have := run_loadCellsFrom (P := P) b o n 0 #[] l hl (by simpa using h)
  simpa [loadCells] using this

/-- The world with a row of cells changed from cell o on. -/
def setRow (w : World) (b o : Nat) : List Value → World
  | [] => w
  | v :: l => setRow (w.setCell ⟨b, o, none⟩ v) b (o + 1) l
def cellV : Value → Bool
  | .agg _ | .tuple _ => false
  | _ => true
theorem run_store {w : World} {a : Addr} {v u : Value} (hv : cellV v = true) (h : w.cell? a = some u) (hf : w.frozen? a = false) : (store a v).run P w = .ok () (w.setCell a v) := by
  cases v <;> simp_all [store, Sem.run, cellV]
theorem heap_setCell (w : World) (b o : Nat) (v : Value) {c : Array Value} {e : TypeId} {fz : Nat × Nat} (h : w.heap[b]? = some (.cells c e fz)) :
    (w.setCell ⟨b, o, none⟩ v).heap[b]? = some (.cells (c.setIfInBounds o v) e fz) := by
  simp [World.setCell, Array.getElem?_modify, h]
theorem heap_setCell_ne (w : World) (b o k : Nat) (v : Value) (h : k ≠ b) : (w.setCell ⟨b, o, none⟩ v).heap[k]? = w.heap[k]? := by
  simp only [World.setCell, Array.getElem?_modify]
  rw [if_neg (by simpa using Ne.symm h)]
theorem run_storeCells (b o : Nat) (e : TypeId) (lo hi : Nat) : ∀ (l : List Value) (i : Nat) (w : World) (c : Array Value), w.heap[b]? = some (.cells c e (lo, hi)) → o + i + l.length ≤ c.size → (c.size ≤ lo ∨ hi ≤ lo) →
    (∀ v ∈ l, cellV v = true) → (storeCells ⟨b, o, none⟩ l i).run P w = .ok () (setRow w b (o + i) l)
  | [], i, w, c, _, _, _, _ => by simp [storeCells, pure, Sem.run, setRow]
  | v :: l, i, w, c, hc, hl, hf, hv => by
    simp only [List.length_cons] at hl
    have h1 : w.cell? ⟨b, o + i, none⟩ = some (c[o + i]'(by omega)) := by
      rw [cell_row (l := ⟨b, 0, 0, 0, 0⟩) hc]; exact Array.getElem?_eq_getElem _
    have h2 : w.frozen? ⟨b, o + i, none⟩ = false := by
      simp [World.frozen?, hc]; omega
    simp only [storeCells, run_bind, add_addr]
    rw [run_store (hv v (by simp)) h1 h2]
    simp only [setRow]
    rw [show o + i + 1 = o + (i + 1) from by omega]
    exact run_storeCells b o e lo hi l (i + 1) _ (c.setIfInBounds (o + i) v) (heap_setCell w b (o + i) v hc) (by simp; omega) (by simpa using hf) (fun u hu => hv u (by simp [hu]))
theorem setRow_ne : ∀ (l : List Value) (w : World) (b o k : Nat), k ≠ b → (setRow w b o l).heap[k]? = w.heap[k]?
  | [], _, _, _, _, _ => rfl
  | v :: l, w, b, o, k, h => by
    rw [setRow, setRow_ne l _ b (o + 1) k h, heap_setCell_ne w b o k v h]
theorem setRow_rest : ∀ (l : List Value) (w : World) (b o : Nat), (setRow w b o l).heap.size = w.heap.size ∧ (setRow w b o l).os = w.os ∧ (setRow w b o l).tape = w.tape ∧ (setRow w b o l).output = w.output
  | [], _, _, _ => ⟨rfl, rfl, rfl, rfl⟩
  | v :: l, w, b, o => by
    obtain ⟨h1, h2, h3, h4⟩ := setRow_rest l (w.setCell ⟨b, o, none⟩ v) b (o + 1)
    exact ⟨by rw [setRow, h1]; simp [World.setCell], by rw [setRow, h2]; rfl, by rw [setRow, h3]; rfl, by rw [setRow, h4]; rfl⟩
theorem setRow_at (e : TypeId) (fz : Nat × Nat) : ∀ (l : List Value) (w : World) (b o : Nat) (c : Array Value), w.heap[b]? = some (.cells c e fz) → o + l.length ≤ c.size →
    ∃ c', (setRow w b o l).heap[b]? = some (.cells c' e fz) ∧ c'.size = c.size ∧ ∀ i, c'[i]? = if o ≤ i ∧ i < o + l.length then l[i - o]? else c[i]?
  | [], w, b, o, c, h, _ => ⟨c, h, rfl, fun i => by rw [if_neg (by simp)]⟩
  | v :: l, w, b, o, c, h, hl => by
    simp only [List.length_cons] at hl
    obtain ⟨c', h1, h2, h3⟩ := setRow_at e fz l (w.setCell ⟨b, o, none⟩ v) b (o + 1) _ (heap_setCell w b o v h) (by simp; omega)
    refine ⟨c', h1, by simpa using h2, fun i => ?_⟩
    rw [h3 i]
    by_cases e1 : i = o
    · subst e1
      rw [if_neg (by omega), if_pos (by simp), Array.getElem?_setIfInBounds]
      simp; omega
    · by_cases e2 : o + 1 ≤ i ∧ i < o + 1 + l.length
      · rw [if_pos e2, if_pos (by simp; omega)]
        obtain ⟨j, rfl⟩ : ∃ j, i = o + 1 + j := ⟨i - (o + 1), by omega⟩
        have : o + 1 + j - o = (j) + 1 := by omega
        rw [this, List.getElem?_cons_succ]
        congr 1; omega
      · rw [if_neg e2, if_neg (by simp; omega), Array.getElem?_setIfInBounds_ne (by omega)]
end
end Go.Proofs.Ytamibbjpapkfeaa.Ab
