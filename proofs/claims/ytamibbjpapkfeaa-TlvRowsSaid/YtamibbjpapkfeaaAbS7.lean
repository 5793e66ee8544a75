import Derived.Test.YtamibbjpapkfeaaAbS6
namespace Go.Proofs.Ytamibbjpapkfeaa.Ab
set_option linter.unusedSimpArgs false
set_option linter.unusedVariables false
open Go
set_option linter.unusedSectionVars false
variable [Rho]
section
variable {P : Program}

/-! ### octets and texts -/
theorem octs_VRs {μ : Mu} : ∀ (l : List AV) (s : List UInt8), octs l = some s → ∀ c, VRs μ l c → ∃ ns : List Int, c = ns.map (Value.int .u8) ∧ s = ns.map fun n => UInt8.ofNat n.toNat
  | [], s, h, c, hc => by simp [octs] at h; subst h; cases hc; exact ⟨[], rfl, rfl⟩
  | v :: l, s, h, c, hc => by
    unfold octs at h
    split at h
    · rename_i heq; cases heq
    · rename_i n l' heq
      cases heq
      split at h
      · rename_i r hr
        cases h
        obtain ⟨x, cr, h1, h2, rfl⟩ := hc
        cases h1
        obtain ⟨ns, rfl, h4⟩ := octs_VRs l r hr cr h2
        exact ⟨n :: ns, rfl, by simp [h4]⟩
      · cases h
    · cases h
theorem foldl_push : ∀ (ns : List Int) (s : ByteArray), ns.foldl (fun (r : ByteArray) n => r.push (UInt8.ofNat n.toNat)) s = ⟨(s.data.toList ++ ns.map fun n => UInt8.ofNat n.toNat).toArray⟩
  | [], s => by simp
  | n :: ns, s => by
    rw [List.foldl_cons, foldl_push ns]
    congr 1
    simp [ByteArray.push]
theorem ofOcts_VRs (μ : Mu) (s : List UInt8) : VRs μ (ofOcts s) (s.map fun b => Value.int .u8 (b.toNat : Int)) :=
  VRs.of_get (by simp [ofOcts]) fun i x y hx hy => by
    simp only [ofOcts, List.getElem?_map] at hx hy
    cases hs : s[i]? with
    | none => simp [hs] at hx
    | some b => simp [hs] at hx hy; subst hx; subst hy; rfl
theorem ofOcts_cells (s : List UInt8) : allCells (ofOcts s) = true := by
  simp [allCells, ofOcts, isCell]
theorem VR.slice_at {μ : Mu} {id off len : Nat} {cap : Cap} {c : Value} (h : VR μ (.slice id off len cap) c) {l : Loc} (hl : μ id = some l) (h0 : len ≠ 0) : ∃ q, c = .slice (some ⟨l.b, l.s + off, none⟩) len q := by
  obtain ⟨L, hL, hc⟩ := h
  rw [hl] at hL; cases hL
  cases cap with
  | known q => exact ⟨_, hc⟩
  | unk k =>
    rcases hc with ⟨_, _, _, _, hc | ⟨h1, _⟩⟩
    · exact ⟨_, hc⟩
    · exact absurd h1 h0
theorem VR.slice_zero {μ : Mu} {id off : Nat} {cap : Cap} {c : Value} (h : VR μ (.slice id off 0 cap) c) : ∃ a q, c = .slice (some a) 0 q := by
  obtain ⟨L, hL, hc⟩ := h
  cases cap with
  | known q => exact ⟨_, _, hc⟩
  | unk k =>
    rcases hc with ⟨_, _, _, _, hc | ⟨_, _, o, hc⟩⟩
    · exact ⟨_, _, hc⟩
    · exact ⟨_, _, hc⟩
theorem run_loadCells_zero (a : Addr) (w : World) : (loadCells a 0).run P w = .ok #[] w := rfl
/-- The first n elements of what is appended or copied. -/
theorem srcA_run {k n : Nat} {x : AV} {H : Heap} {xs : List AV} (h : srcA k x n H = some xs) (hk : 0 < k) {μ : Mu} {w : World} (r : Rep μ H.get w) {c : Value} (hx : VR μ x c) {m : Nat} (hm : lenA x = some m) (hn : n ≤ m) :
    ∃ cs : List Value, (∀ w' : World, w'.heap = w.heap → (Builtin.firstCells k n c).run P w' = .ok cs.toArray w') ∧ VRs μ xs cs := by
  unfold srcA at h
  split at h
  · cases h; cases hx
    exact ⟨[], fun w' _ => by simp [Builtin.firstCells], rfl⟩
  · rename_i id off len cap
    split at h
    · rename_i vs own lf hg
      obtain ⟨l, c0, e, lo, hi, h1, h2, h3, h4, h5, h6, h7⟩ := rep_row r hg
      obtain ⟨cs, k1, k2, k3, _⟩ := rep_cells h7 h
      simp [lenA] at hm; subst hm
      by_cases h0 : len = 0
      · subst h0
        have n0 : n = 0 := by omega
        subst n0
        obtain ⟨a, q, rfl⟩ := hx.slice_zero
        have : cs = [] := List.eq_nil_of_length_eq_zero (by simpa using k2)
        subst this
        exact ⟨[], fun w' _ => by simp [Builtin.firstCells, run_loadCells_zero], k1⟩
      · obtain ⟨q, rfl⟩ := hx.slice_at h1 h0
        refine ⟨cs, fun w' ew => ?_, k1⟩
        simp only [Builtin.firstCells]
        exact run_loadCells l.b (l.s + off) (n * k) cs k2 (fun j y hj => by rw [cell_row (w := w') (by rw [ew]; exact h2)]; exact k3 j y hj)
    · cases h
  · rename_i s
    split at h
    · cases h; cases hx
      refine ⟨(s.take n).map fun b => Value.int .u8 (b.toNat : Int), fun w' _ => ?_, ofOcts_VRs μ _⟩
      simp only [Builtin.firstCells, Sem.run_pure]
      congr 1
      apply Array.ext'
      simp
    · cases h
  · cases h
theorem lenA_run {x : AV} {m : Nat} (h : lenA x = some m) {μ : Mu} {c : Value} (hx : VR μ x c) (w : World) : (Builtin.lenOf c).run P w = .ok m w := by
  unfold lenA at h
  split at h
  · cases h; cases hx; rfl
  · rename_i id off n cap
    cases h
    obtain ⟨L, hL, hc⟩ := hx
    cases cap with
    | known q => subst hc; rfl
    | unk k =>
      rcases hc with ⟨_, _, _, _, hc | ⟨h1, _, o, hc⟩⟩
      · subst hc; rfl
      · subst hc; subst h1; rfl
  · cases h; cases hx; rfl
  · cases h

theorem cut_ge (need old : Nat) (e : TypeId) (t : Nat) : need ≤ (Question.appendCap need old e).cut t := Nat.le_add_right _ _
theorem modify_push {α : Type} (a : Array α) (x : α) (f : α → α) : (a.push x).modify a.size f = a.push (f x) := by
  apply Array.ext_getElem?
  intro i
  rw [Array.getElem?_modify, Array.getElem?_push, Array.getElem?_push]
  by_cases h : a.size = i
  · subst h; simp
  · rw [if_neg h, if_neg (Ne.symm h), if_neg (Ne.symm h)]
theorem stringToBytes_run {μ : Mu} {H : Heap} {w : World} (r : Rep μ H.get w) (d : Dom μ H.next) (s : List UInt8) (e : TypeId) :
    ∃ μ' y w', (Conv.stringToBytes e ⟨s.toArray⟩).run P w = .ok y w' ∧ VR μ' (.slice H.next 0 s.length (.unk 1)) y ∧ Evo μ H.get H.next w μ' (H.new (.row (ofOcts s) true true)).get (H.new (.row (ofOcts s) true true)).next w' := by
  generalize hcap : (Question.appendCap s.length 0 e).cut (w.tape w.drawn (Question.appendCap s.length 0 e)) = cap
  have hge : s.length ≤ cap := by rw [← hcap]; exact cut_ge _ _ _ _
  let c : Array Value := (s.map fun b => Value.int .u8 (b.toNat : Int)).toArray ++ Array.replicate (cap - s.length) (.int .u8 0)
  have hcs : c.size = cap := by simp [c]; omega
  have hrun : (Conv.stringToBytes e ⟨s.toArray⟩).run P w = .ok (.slice (some ⟨w.heap.size, 0, none⟩) s.length cap) { w with heap := w.heap.push (.cells c e (c.size, c.size + 1)), drawn := w.drawn + 1 } := by
    have e2 : (⟨s.toArray⟩ : ByteArray).size = s.length := rfl
    simp only [Conv.stringToBytes, e2, Sem.run_bind, run_choose, Question.forced, Bool.false_eq_true, if_false, Result.andThen_ok, hcap]
    have e3 : (Array.map (fun (b : UInt8) => Value.int IntKind.u8 (b.toNat : Int)) s.toArray ++ Array.replicate (cap - s.length) (Value.int IntKind.u8 0)) = c := by simp [c]
    simp only [newRow, Sem.run_bind, run_newObj, Result.andThen_ok, Sem.run_pure, markStringish, run_shape]
    rw [e3]
    simp [World.shape?, World.freeze, modify_push]
  refine ⟨setMu μ H.next ⟨w.heap.size, 0, cap, 1, s.length⟩, _, _, hrun, ⟨⟨w.heap.size, 0, cap, 1, s.length⟩, by simp [setMu], by simp, rfl, by simp, by simp, .inl (by simp)⟩, ?_⟩
  refine evo_new (w' := { w with heap := w.heap.push (.cells c e (c.size, c.size + 1)), drawn := w.drawn + 1 }) r d (obj := .cells c e (c.size, c.size + 1)) ⟨rfl, rfl, rfl, rfl⟩ _ ⟨w.heap.size, 0, cap, 1, s.length⟩ rfl fun μ' he hm => ?_
  refine ⟨_, c, e, c.size, c.size + 1, hm, by simp, by simp [ofOcts], by simpa using hge, by simp [hcs], fun _ => .inl (Nat.le_refl _), fun i x hx => ?_⟩
  simp only [ofOcts, List.getElem?_map] at hx
  cases hs : s[i]? with
  | none => simp [hs] at hx
  | some b =>
    simp [hs] at hx; subst hx
    have hlt := (List.getElem?_eq_some_iff.1 hs).1
    refine ⟨rfl, _, ?_, rfl⟩
    simp only [c, Nat.zero_add]
    rw [Array.getElem?_append_left (by simpa using hlt)]
    simp [hs]
theorem stringToBytes_sym {μ : Mu} {H : Heap} {w : World} (r : Rep μ H.get w) (d : Dom μ H.next) (t : Tm) (e : TypeId) :
    ∃ μ' y w', (Conv.stringToBytes e ⟨t.den.asS.toArray⟩).run P w = .ok y w' ∧ VR μ' (.sslice H.next 1 (.ci 0) (lenT t)) y ∧ Evo μ H.get H.next w μ' (H.new (.bytes t true)).get (H.new (.bytes t true)).next w' := by
  generalize hts : t.den.asS = s
  generalize hcap : (Question.appendCap s.length 0 e).cut (w.tape w.drawn (Question.appendCap s.length 0 e)) = cap
  have hge : s.length ≤ cap := by rw [← hcap]; exact cut_ge _ _ _ _
  let c : Array Value := (s.map fun b => Value.int .u8 (b.toNat : Int)).toArray ++ Array.replicate (cap - s.length) (.int .u8 0)
  have hcs : c.size = cap := by simp [c]; omega
  have hrun : (Conv.stringToBytes e ⟨s.toArray⟩).run P w = .ok (.slice (some ⟨w.heap.size, 0, none⟩) s.length cap) { w with heap := w.heap.push (.cells c e (c.size, c.size + 1)), drawn := w.drawn + 1 } := by
    have e2 : (⟨s.toArray⟩ : ByteArray).size = s.length := rfl
    simp only [Conv.stringToBytes, e2, Sem.run_bind, run_choose, Question.forced, Bool.false_eq_true, if_false, Result.andThen_ok, hcap]
    have e3 : (Array.map (fun (b : UInt8) => Value.int IntKind.u8 (b.toNat : Int)) s.toArray ++ Array.replicate (cap - s.length) (Value.int IntKind.u8 0)) = c := by simp [c]
    simp only [newRow, Sem.run_bind, run_newObj, Result.andThen_ok, Sem.run_pure, markStringish, run_shape]
    rw [e3]
    simp [World.shape?, World.freeze, modify_push]
  have hlen : (lenT t).den.asI = (s.length : Int) := by rw [lenT_den, hts]; rfl
  have h0 : (Tm.ci 0).den.asI = 0 := rfl
  refine ⟨setMu μ H.next ⟨w.heap.size, 0, cap, 1, s.length⟩, _, _, hrun, ⟨⟨w.heap.size, 0, cap, 1, s.length⟩, by simp [setMu], rfl, by simp, by rw [h0]; exact Int.le_refl _, by rw [hlen]; omega, ⟨by rw [hlen, h0]; simp, by rw [hlen, h0]; simpa using hge⟩, .inl (by rw [hlen, h0]; simp)⟩, ?_⟩
  refine evo_new (w' := { w with heap := w.heap.push (.cells c e (c.size, c.size + 1)), drawn := w.drawn + 1 }) r d (obj := .cells c e (c.size, c.size + 1)) ⟨rfl, rfl, rfl, rfl⟩ _ ⟨w.heap.size, 0, cap, 1, s.length⟩ rfl fun μ' he hm => ?_
  refine ⟨_, c, e, c.size, c.size + 1, hm, by simp, ⟨rfl, by rw [hts]⟩, by simpa using hge, by simp [hcs], fun _ => .inl (Nat.le_refl _), fun i x hx => ?_⟩
  rw [hts] at hx
  have hlt := (List.getElem?_eq_some_iff.1 hx).1
  simp only [c, Nat.zero_add]
  rw [Array.getElem?_append_left (by simpa using hlt)]
  simp [hx]
theorem octsT_VRs {μ : Mu} : ∀ (l : List AV) (t : Tm), octsT l = some t → ∀ (cs : List Value), VRs μ l cs → ∃ ns : List Int, cs = ns.map (Value.int .u8) ∧ t.den.asS = ns.map fun n => UInt8.ofNat n.toNat
  | [], t, h, cs, hc => by simp [octsT] at h; subst h; cases hc; exact ⟨[], rfl, rfl⟩
  | .int .u8 n :: l, t, h, cs, hc => by
    simp only [octsT] at h
    split at h
    · rename_i r hr
      cases h
      obtain ⟨x, rr, h1, h2, rfl⟩ := hc
      cases h1
      obtain ⟨ns, rfl, e⟩ := octsT_VRs l r hr rr h2
      refine ⟨n :: ns, rfl, ?_⟩
      rw [sopT_den]
      show [UInt8.ofNat n.toNat] ++ r.den.asS = _
      rw [e]; rfl
    · cases h
  | .sint .u8 n :: l, t, h, cs, hc => by
    simp only [octsT] at h
    split at h
    · rename_i r hr
      cases h
      obtain ⟨x, rr, h1, h2, rfl⟩ := hc
      cases h1
      obtain ⟨ns, rfl, e⟩ := octsT_VRs l r hr rr h2
      refine ⟨n.den.asI :: ns, rfl, ?_⟩
      rw [sopT_den]
      show [UInt8.ofNat n.den.asI.toNat] ++ r.den.asS = _
      rw [e]; rfl
    · cases h
/-- The octets of a part of a row that is not told. -/
theorem bytes_cells {μ : Mu} {H : Heap} {w : World} (r : Rep μ H.get w) {id : Nat} {t : Tm} {own : Bool} (hg : H.get id = some (.bytes t own)) {l : Loc} (hl : μ id = some l) {off len : Nat} (hb : off + len ≤ l.ext) :
    (loadCells ⟨l.b, l.s + off, none⟩ len).run P w = .ok ((((t.den.asS.drop off).take len).map fun b => (b.toNat : Int)).map (Value.int .u8)).toArray w ∧ l.k = 1 := by
  obtain ⟨l', c, e, lo, hi, h1, h2, ⟨h3, h3'⟩, h4, h5, h6, h7⟩ := r.obj _ _ hg
  rw [hl] at h1; cases h1
  refine ⟨run_loadCells l.b (l.s + off) len _ (by simp; omega) fun j y hj => ?_, h3⟩
  rw [cell_row h2]
  simp only [List.map_map, List.getElem?_map, Option.map_eq_some_iff] at hj
  obtain ⟨b, hb', rfl⟩ := hj
  rw [List.getElem?_take] at hb'
  split at hb'
  · rw [List.getElem?_drop] at hb'
    have := h7 _ _ hb'
    rw [← Nat.add_assoc] at this
    exact this
  · cases hb'
theorem map_octets (s : List UInt8) : (s.map fun b => (b.toNat : Int)).map (fun n => UInt8.ofNat n.toNat) = s := by
  rw [List.map_map]
  have : ((fun n : Int => UInt8.ofNat n.toNat) ∘ fun b : UInt8 => (b.toNat : Int)) = id := by funext b; simp
  rw [this, List.map_id]
theorem convA_run {src dst : TypeId} {x v : AV} {H H' : Heap} (h : convA P src dst x H = some (v, H')) {μ : Mu} {w : World} (r : Rep μ H.get w) (d : Dom μ H.next) {c : Value} (hx : VR μ x c) :
    ∃ μ' y w', (convert src dst c).run P w = .ok y w' ∧ VR μ' v y ∧ Evo μ H.get H.next w μ' H'.get H'.next w' := by
  unfold convA at h
  split at h
  · rename_i u k k' n hs hd
    cases h; cases hx
    exact ⟨μ, _, w, by simp [convert, run_underlying hs, run_underlying hd, Conv.intToInt], rfl, Evo.refl r d⟩
  · rename_i u k k' n hs hd
    cases h; cases hx
    refine ⟨μ, .int k (k.wrap n.den.asI), w, ?_, ?_, Evo.refl r d⟩
    · simp only [convert, Sem.run_bind, run_underlying hs, run_underlying hd, Result.andThen_ok]; rfl
    · have := mkI_VR μ k (wrapT k n)
      rw [wrapT_den] at this
      exact this
  · rename_i e hs hd
    split at h
    · rename_i he
      cases h; cases hx
      refine ⟨μ, _, w, ?_, rfl, Evo.refl r d⟩
      simp only [convert, Sem.run_bind, run_underlying hs, run_underlying hd, run_underlying he, Result.andThen_ok, Conv.bytesToString]
      rfl
    · cases h
  · rename_i e id off len cap hs hd
    split at h
    · rename_i he
      split at h
      · rename_i vs own lf hg
        split at h
        · rename_i l hl
          obtain ⟨L, c0, e0, lo, hi, h1, h2, h3, h4, h5, h6, h7⟩ := rep_row r hg
          obtain ⟨cs, k1, k2, k3, _⟩ := rep_cells h7 hl
          have main : ∀ ns : List Int, cs = ns.map (Value.int .u8) → (convert src dst c).run P w = .ok (.string ⟨(ns.map fun n => UInt8.ofNat n.toNat).toArray⟩) w := fun ns hns => by
            subst hns
            have hrun : ∃ a q, c = .slice (some a) len q ∧ (loadCells a len).run P w = .ok (ns.map (Value.int .u8)).toArray w := by
              by_cases h0 : len = 0
              · subst h0
                obtain ⟨a, q, rfl⟩ := hx.slice_zero
                have : ns = [] := List.eq_nil_of_length_eq_zero (by simpa using k2)
                subst this
                exact ⟨a, q, rfl, rfl⟩
              · obtain ⟨q, rfl⟩ := hx.slice_at h1 h0
                exact ⟨_, q, rfl, run_loadCells L.b (L.s + off) len _ k2 (fun j y hj => by rw [cell_row h2]; exact k3 j y hj)⟩
            obtain ⟨a, q, rfl, hload⟩ := hrun
            rw [run_convert_bytes_string w src dst e (some a) len q hs he hd, run_bytesToString w a len q ns hload, foldl_push]
            simp
          split at h
          · rename_i s hs'
            cases h
            obtain ⟨ns, hns, rfl⟩ := octs_VRs l s hs' cs k1
            exact ⟨μ, _, w, main ns hns, rfl, Evo.refl r d⟩
          · split at h
            · rename_i t ht
              cases h
              obtain ⟨ns, hns, e2⟩ := octsT_VRs l t ht cs k1
              refine ⟨μ, _, w, main ns hns, ?_, Evo.refl r d⟩
              rw [← e2]
              exact mkS_VR μ t
            · cases h
        · cases h
      · cases h
    · cases h
  · rename_i e id k off len hs hd
    split at h
    · rename_i he
      split at h
      · rename_i t own hg
        split at h
        · rename_i hk
          cases h
          have hk1 : k = 1 := Nat.eq_of_beq_eq_true hk
          obtain ⟨l, h1, h2, h3, h4, h5, h6, h7⟩ := hx
          refine ⟨μ, .string ⟨(cutS t.den.asS off.den.asI (off.den.asI + len.den.asI)).toArray⟩, w, ?_, rfl, Evo.refl r d⟩
          have hcut : cutS t.den.asS off.den.asI (off.den.asI + len.den.asI) = (t.den.asS.drop off.den.asI.toNat).take len.den.asI.toNat := by
            unfold cutS; congr 1; omega
          rw [hcut]
          obtain ⟨m1, m2⟩ := bytes_cells (P := P) r hg h1 (off := off.den.asI.toNat) (len := len.den.asI.toNat) (by subst hk1; simpa using h6.1)
          have hrun : ∃ a q, c = .slice (some a) len.den.asI.toNat q ∧ (loadCells a len.den.asI.toNat).run P w = .ok ((((t.den.asS.drop off.den.asI.toNat).take len.den.asI.toNat).map fun b => (b.toNat : Int)).map (Value.int .u8)).toArray w := by
            rcases h7 with rfl | ⟨h0, o, rfl⟩
            · refine ⟨_, _, rfl, ?_⟩
              subst hk1
              simpa using m1
            · rw [h0]
              exact ⟨_, _, rfl, by simp; rfl⟩
          obtain ⟨a, q, rfl, hload⟩ := hrun
          rw [run_convert_bytes_string w src dst e (some a) _ q hs he hd, run_bytesToString w a _ q _ hload, foldl_push, map_octets]
          simp
        · cases h
      · cases h
    · cases h
  · cases h
  · rename_i u s hs hd
    cases h; cases hx
    refine ⟨μ, _, w, ?_, rfl, Evo.refl r d⟩
    simp only [convert, Sem.run_bind, run_underlying hs, run_underlying hd, Result.andThen_ok]
    rfl
  · rename_i u s hs hd
    cases h; cases hx
    refine ⟨μ, _, w, ?_, rfl, Evo.refl r d⟩
    simp only [convert, Sem.run_bind, run_underlying hs, run_underlying hd, Result.andThen_ok]
    rfl
  · rename_i u e s hs hd
    split at h
    · rename_i he
      cases h; cases hx
      obtain ⟨μ', y, w', h1, h2, h3⟩ := stringToBytes_run (P := P) r d s e
      refine ⟨μ', y, w', ?_, h2, h3⟩
      simp only [convert, Sem.run_bind, run_underlying hs, run_underlying hd, run_underlying he, Result.andThen_ok]
      exact h1
    · cases h
  · rename_i u e s hs hd
    split at h
    · rename_i he
      cases h; cases hx
      obtain ⟨μ', y, w', h1, h2, h3⟩ := stringToBytes_sym (P := P) r d s e
      refine ⟨μ', y, w', ?_, h2, h3⟩
      simp only [convert, Sem.run_bind, run_underlying hs, run_underlying hd, run_underlying he, Result.andThen_ok]
      exact h1
    · cases h
  · cases h
end
end Go.Proofs.Ytamibbjpapkfeaa.Ab
