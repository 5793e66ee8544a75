import Derived.Test.YtamibbjpapkfeaaAbS11
import Derived.MapKept
namespace Go.Proofs.Ytamibbjpapkfeaa.Ab
set_option linter.unusedSimpArgs false
set_option linter.unusedVariables false
open Go
set_option linter.unusedSectionVars false
variable [Rho]
section
variable {P : Program}
/-! ### maps -/
theorem ERs.nil {μ : Mu} {ents : List MapEntry} (h : ERs μ [] ents) : ents = [] := by
  have h1 : ents.map (·.key) = [] := h.1
  simpa using h1
theorem ERs.cons {μ : Mu} {p : AV × AV} {es : List (AV × AV)} {ents : List MapEntry} (h : ERs μ (p :: es) ents) :
    ∃ x r, ents = x :: r ∧ VR μ p.1 x.key ∧ VR μ p.2 x.val ∧ ERs μ es r := by
  obtain ⟨h1, h2⟩ := h
  cases ents with
  | nil =>
    obtain ⟨x, r, _, _, e⟩ := h1
    simp at e
  | cons x r =>
    obtain ⟨k, l, a1, a2, e1⟩ := h1
    obtain ⟨v, m, b1, b2, e2⟩ := h2
    simp only [List.map_cons, List.cons.injEq] at e1 e2
    obtain ⟨rfl, rfl⟩ := e1
    obtain ⟨rfl, rfl⟩ := e2
    exact ⟨x, r, rfl, a1, b1, a2, b2⟩
theorem ERs.mk {μ : Mu} {p : AV × AV} {es : List (AV × AV)} {x : MapEntry} {r : List MapEntry} (h1 : VR μ p.1 x.key) (h2 : VR μ p.2 x.val) (h : ERs μ es r) : ERs μ (p :: es) (x :: r) :=
  ⟨⟨_, _, h1, h.1, rfl⟩, ⟨_, _, h2, h.2, rfl⟩⟩
theorem eqA_equal {μ : Mu} {t : TypeId} {x y : AV} {b : Tm} (h : eqA P eqDepth t x y = some b) {cx cy : Value} (hx : VR μ x cx) (hy : VR μ y cy) (w : World) : (Op.equal t cx cy).run P w = .ok b.den.asB w :=
  eqA_run eqDepth t x y b h cx cy hx hy _ w (by decide)
theorem hitsA_perm {kt : TypeId} {key : AV} {es es' : List (AV × AV)} (p : es'.Perm es) : ∀ {l : List (AV × AV)}, hitsA P kt key es = some l → ∃ l', hitsA P kt key es' = some l' ∧ l'.Perm l := by
  induction p with
  | nil => intro l h; exact ⟨l, h, List.Perm.refl _⟩
  | cons x _ ih =>
    intro l h
    simp only [hitsA] at h ⊢
    split at h
    · rename_i q1 q2
      cases h
      obtain ⟨l', h1, h2⟩ := ih q2
      exact ⟨x :: l', by rw [q1, h1], h2.cons x⟩
    · rename_i q1 q2
      cases h
      obtain ⟨l', h1, h2⟩ := ih q2
      exact ⟨l', by rw [q1, h1], h2⟩
    · cases h
  | swap x y l0 =>
    intro l h
    simp only [hitsA] at h ⊢
    split at h
    · rename_i q1 q2
      cases h
      split at q2
      · rename_i r1 r2
        cases q2
        exact ⟨_, by rw [q1, r1, r2], List.Perm.swap _ _ _⟩
      · rename_i r1 r2
        cases q2
        exact ⟨_, by rw [q1, r1, r2], List.Perm.refl _⟩
      · cases q2
    · rename_i q1 q2
      cases h
      split at q2
      · rename_i r1 r2
        cases q2
        exact ⟨_, by rw [q1, r1, r2], List.Perm.refl _⟩
      · rename_i r1 r2
        cases q2
        exact ⟨_, by rw [q1, r1, r2], List.Perm.refl _⟩
      · cases q2
    · cases h
  | trans _ _ ih1 ih2 =>
    intro l h
    obtain ⟨l1, h1, h2⟩ := ih2 h
    obtain ⟨l2, h3, h4⟩ := ih1 h1
    exact ⟨l2, h3, h4.trans h2⟩
theorem hitsA_none {μ : Mu} {kt : TypeId} {key : AV} {ck : Value} (hk : VR μ key ck) (w : World) : ∀ (es : List (AV × AV)), hitsA P kt key es = some [] → ∀ (ents : List MapEntry) (i : Nat), ERs μ es ents → (Instr.findAsking kt ck ents i).run P w = .ok none w
  | [], h, ents, i, he => by obtain rfl := he.nil; rfl
  | p :: es, h, ents, i, he => by
    obtain ⟨x, l, rfl, h1, h2, h3⟩ := he.cons
    simp only [hitsA] at h
    split at h
    · cases h
    · rename_i hq hl
      simp only [Option.some.injEq] at h; subst h
      have := eqA_equal hq hk h1 w
      have e : (Instr.findAsking kt ck (x :: l) i).run P w = (Instr.findAsking kt ck l (i + 1)).run P w := by
        simp only [Instr.findAsking, Sem.run_bind, this, Result.andThen_ok]
        rfl
      rw [e]
      exact hitsA_none hk w es hl l (i + 1) h3
    · cases h
theorem replA_none {kt : TypeId} {key v : AV} : ∀ (es : List (AV × AV)), hitsA P kt key es = some [] → es.map (replA P kt key v) = es
  | [], _ => rfl
  | p :: es, h => by
    simp only [hitsA] at h
    split at h
    · cases h
    · rename_i hq hl
      simp only [Option.some.injEq] at h; subst h
      simp only [List.map_cons, replA, hq, replA_none es hl]
    · cases h
theorem hitsA_one {μ : Mu} {kt : TypeId} {key v : AV} {ck cv : Value} (hk : VR μ key ck) (hv : VR μ v cv) (w : World) {e0 : AV × AV} : ∀ (es : List (AV × AV)), hitsA P kt key es = some [e0] → ∀ (ents : List MapEntry) (i : Nat), ERs μ es ents →
    ∃ j e, (Instr.findAsking kt ck ents i).run P w = .ok (some (i + j, e.val)) w ∧ ents[j]? = some e ∧ VR μ e0.1 e.key ∧ VR μ e0.2 e.val ∧ ERs μ (es.map (replA P kt key v)) (ents.modify j fun e => { e with key := ck, val := cv })
  | [], h, ents, i, he => by simp [hitsA] at h
  | p :: es, h, ents, i, he => by
    obtain ⟨x, l, rfl, h1, h2, h3⟩ := he.cons
    simp only [hitsA] at h
    split at h
    · rename_i hq hl
      simp only [Option.some.injEq, List.cons.injEq] at h
      obtain ⟨rfl, rfl⟩ := h
      have := eqA_equal hq hk h1 w
      refine ⟨0, x, ?_, rfl, h1, h2, ?_⟩
      · simp only [Instr.findAsking, Sem.run_bind, this, Result.andThen_ok]
        rfl
      · simp only [List.map_cons, replA, hq]
        rw [replA_none (v := v) es hl]
        exact ERs.mk hk hv h3
    · rename_i hq hl
      simp only [Option.some.injEq] at h; subst h
      have := eqA_equal hq hk h1 w
      have e : (Instr.findAsking kt ck (x :: l) i).run P w = (Instr.findAsking kt ck l (i + 1)).run P w := by
        simp only [Instr.findAsking, Sem.run_bind, this, Result.andThen_ok]
        rfl
      rw [e]
      obtain ⟨j, y, q1, q2, q3, q4, q5⟩ := hitsA_one hk hv w es hl l (i + 1) h3
      refine ⟨j + 1, y, by rw [q1, show i + 1 + j = i + (j + 1) by omega], q2, q3, q4, ?_⟩
      have e2 : replA P kt key v p = p := by simp only [replA, hq]
      rw [List.map_cons, e2]
      exact ERs.mk h1 h2 q5
    · cases h
theorem findA_run {μ : Mu} {kt : TypeId} {key : AV} {ck : Value} (hk : VR μ key ck) (w : World) (es es' : List (AV × AV)) (hp : es'.Perm es) (r : Option AV) (h : findA P kt key es = some r) (ents : List MapEntry) (he : ERs μ es' ents) :
    (r = none ∧ (Instr.findAsking kt ck ents 0).run P w = .ok none w) ∨ ∃ v j c, r = some v ∧ (Instr.findAsking kt ck ents 0).run P w = .ok (some (j, c)) w ∧ VR μ v c := by
  unfold findA at h
  split at h
  · rename_i hh
    cases h
    obtain ⟨l', h1, h2⟩ := hitsA_perm hp hh
    obtain rfl := h2.eq_nil
    exact .inl ⟨rfl, hitsA_none hk w es' h1 ents 0 he⟩
  · rename_i e hh
    cases h
    obtain ⟨l', h1, h2⟩ := hitsA_perm hp hh
    obtain rfl := List.perm_singleton.1 h2
    obtain ⟨j, y, q1, q2, q3, q4, q5⟩ := hitsA_one hk hk w es' h1 ents 0 he
    exact .inr ⟨_, _, _, rfl, q1, q4⟩
  · cases h
mutual
theorem plain_det {μ : Mu} : ∀ (a b : AV), plainEq a b = true → ∀ (c d : Value), VR μ a c → VR μ b d → c = d
  | .bool a, b, h, c, d, h1, h2 => by
    cases b <;> simp [plainEq] at h
    subst h
    exact (show c = _ from h1).trans (show d = _ from h2).symm
  | .int k a, b, h, c, d, h1, h2 => by
    cases b <;> simp [plainEq] at h
    obtain ⟨rfl, rfl⟩ := h
    exact (show c = _ from h1).trans (show d = _ from h2).symm
  | .str a, b, h, c, d, h1, h2 => by
    cases b <;> simp [plainEq] at h
    subst h
    exact (show c = _ from h1).trans (show d = _ from h2).symm
  | .agg a, b, h, c, d, h1, h2 => by
    cases b <;> simp [plainEq] at h
    obtain ⟨x, h1, rfl⟩ := h1
    obtain ⟨y, h2, rfl⟩ := h2
    rw [plains_det a _ h x y h1 h2]
  | .ptr _ _, b, h, _, _, _, _ | .nilPtr, b, h, _, _, _, _ | .slice _ _ _ _, b, h, _, _, _, _ | .nilSlice, b, h, _, _, _, _ | .map _, b, h, _, _, _, _ | .nilMap, b, h, _, _, _, _ | .func _ _ _, b, h, _, _, _, _ | .nilFunc, b, h, _, _, _, _ | .iface _ _, b, h, _, _, _, _ | .nilIface, b, h, _, _, _, _ | .tuple _, b, h, _, _, _, _ | .sbool _, b, h, _, _, _, _ | .sint _ _, b, h, _, _, _, _ | .sstr _, b, h, _, _, _, _ | .eptr _ _ _ _, b, h, _, _, _, _ | .sslice _ _ _ _, b, h, _, _, _, _ => by simp [plainEq] at h
theorem plains_det {μ : Mu} : ∀ (a b : List AV), plainEq.plainEqs a b = true → ∀ (c d : List Value), VRs μ a c → VRs μ b d → c = d
  | [], b, h, c, d, h1, h2 => by
    cases b <;> simp [plainEq.plainEqs] at h
    exact (show c = _ from h1).trans (show d = _ from h2).symm
  | a :: l, b, h, c, d, h1, h2 => by
    obtain ⟨x, r, k1, k2, rfl⟩ := h1
    cases b with
    | nil => cases a <;> simp [plainEq.plainEqs] at h
    | cons b m =>
      obtain ⟨y, s, q1, q2, rfl⟩ := h2
      have : plainEq a b = true ∧ plainEq.plainEqs l m = true := by
        cases a <;> cases b <;> simp_all [plainEq.plainEqs, plainEq]
      rw [plain_det a b this.1 x y k1 q1, plains_det l m this.2 r s k2 q2]
end
theorem plain_bits1 {μ : Mu} {a b : AV} (h : plainEq a b = true) (hg : ∀ l, a ≠ .agg l) {c : Value} (hc : VR μ a c) (n : Nat) : Instr.sameBits n c c = true := by
  cases a <;> cases b <;> simp [plainEq] at h
  · rw [show c = _ from hc]; simp [Instr.sameBits]
  · rw [show c = _ from hc]; simp [Instr.sameBits]
  · rw [show c = _ from hc]; simp only [Instr.sameBits, beq_bytes]; simp
  · exact absurd rfl (hg _)
theorem plains_bits {μ : Mu} : ∀ (a b : List AV), plainEq.plainEqs a b = true → ∀ (c : List Value), VRs μ a c → ∀ (n : Nat), (c.zip c).all (fun (x, y) => Instr.sameBits n x y) = true
  | [], b, h, c, h1, n => by
    obtain rfl : c = [] := h1
    rfl
  | a :: l, b, h, c, h1, n => by
    obtain ⟨x, r, k1, k2, rfl⟩ := h1
    cases b with
    | nil => cases a <;> simp [plainEq.plainEqs] at h
    | cons b m =>
      have : plainEq a b = true ∧ plainEq.plainEqs l m = true ∧ ∀ q, a ≠ .agg q := by
        cases a <;> cases b <;> simp_all [plainEq.plainEqs, plainEq]
      simp only [List.zip_cons_cons, List.all_cons, Bool.and_eq_true]
      exact ⟨plain_bits1 this.1 this.2.2 k1 n, plains_bits l m this.2.1 r k2 n⟩
theorem plain_bits {μ : Mu} {a b : AV} (h : plainEq a b = true) {c : Value} (hc : VR μ a c) (n : Nat) : Instr.sameBits (n + 1) c c = true := by
  by_cases hg : ∃ l, a = .agg l
  · obtain ⟨l, rfl⟩ := hg
    obtain ⟨x, h1, rfl⟩ := hc
    cases b <;> simp [plainEq] at h
    simp only [Instr.sameBits, beq_self_eq_true, Bool.true_and]
    exact plains_bits l _ h x h1 n
  · exact plain_bits1 h (fun l e => hg ⟨l, e⟩) hc (n + 1)
theorem setA_run {μ : Mu} {kt : TypeId} {key v : AV} {ck cv : Value} (hk : VR μ key ck) (hv : VR μ v cv) (w : World) (es es' l : List (AV × AV)) (hp : es'.Perm es) (h : setA P kt key v es = some l) (ents : List MapEntry) (he : ERs μ es' ents) :
    (∃ j e l', (Instr.findAsking kt ck ents 0).run P w = .ok (some (j, e.val)) w ∧ ents[j]? = some e ∧ (Instr.keyThatStays e.key ck).run P w = .ok ck w ∧ l'.Perm l ∧ ERs μ l' (ents.modify j fun e => { e with key := ck, val := cv })) ∨
    ((Instr.findAsking kt ck ents 0).run P w = .ok none w ∧ ∃ l', l'.Perm l ∧ ∀ n, ERs μ l' (ents ++ [⟨ck, cv, n⟩])) := by
  unfold setA at h
  split at h
  · rename_i hh
    cases h
    obtain ⟨l', h1, h2⟩ := hitsA_perm hp hh
    obtain rfl := h2.eq_nil
    refine .inr ⟨hitsA_none hk w es' h1 ents 0 he, es' ++ [(key, v)], (List.perm_append_singleton _ _).trans (hp.cons _), fun n => ?_⟩
    obtain ⟨a1, a2⟩ := he
    constructor
    · rw [List.map_append, List.map_append]
      exact a1.append ⟨_, _, hk, rfl, rfl⟩
    · rw [List.map_append, List.map_append]
      exact a2.append ⟨_, _, hv, rfl, rfl⟩
  · rename_i e hh
    split at h
    · rename_i hpe
      cases h
      obtain ⟨l', h1, h2⟩ := hitsA_perm hp hh
      obtain rfl := List.perm_singleton.1 h2
      obtain ⟨j, y, q1, q2, q3, q4, q5⟩ := hitsA_one hk hv w es' h1 ents 0 he
      obtain rfl := plain_det _ _ hpe _ _ hk q3
      refine .inl ⟨j, y, _, by rw [q1, Nat.zero_add], q2, ?_, hp.map _, q5⟩
      unfold Instr.keyThatStays
      rw [if_pos (plain_bits hpe hk 9999)]
      rfl
    · cases h
  · cases h
theorem sameNow_run {kt : TypeId} {kd : TypeDesc} (hu : P.underlying kt = some kd) {a b : Value} {r : Bool} (h : Instr.sameNow kd a b = some r) (w : World) : (Op.equal kt a b).run P w = .ok r w := by
  have : ∀ D, (Op.equalIn (D + 1) kt a b).run P w = .ok r w := by
    intro D
    cases kd <;> cases a <;> cases b <;> simp [Instr.sameNow] at h
    · subst h; simp [Op.equalIn, run_underlying hu]
    · obtain ⟨rfl, rfl⟩ := h; simp [Op.equalIn, run_underlying hu]
    · subst h; simp [Op.equalIn, run_underlying hu]
  exact this 9999
theorem findNow_run {kt : TypeId} {kd : TypeDesc} (hu : P.underlying kt = some kd) {k : Value} (w : World) : ∀ (ents : List MapEntry) (i : Nat) (r : Option (Nat × Value)), Instr.findNow kd k ents i = some r → (Instr.findAsking kt k ents i).run P w = .ok r w
  | [], i, r, h => by simp [Instr.findNow] at h; subst h; rfl
  | e :: es, i, r, h => by
    simp only [Instr.findNow] at h
    split at h
    · rename_i hs
      cases h
      simp only [Instr.findAsking, Sem.run_bind, sameNow_run hu hs w, Result.andThen_ok]
      rfl
    · rename_i hs
      have := findNow_run hu w es (i + 1) r h
      simp only [Instr.findAsking, Sem.run_bind, sameNow_run hu hs w, Result.andThen_ok]
      exact this
    · cases h
theorem findKey_run {kt : TypeId} {kd : TypeDesc} (hu : P.underlying kt = some kd) (k : Value) (w : World) (ents : List MapEntry) : (Instr.findKey kt k ents).run P w = (Instr.findAsking kt k ents 0).run P w := by
  unfold Instr.findKey
  simp only [Sem.run_bind, run_underlying hu, Result.andThen_ok]
  cases h : Instr.findNow kd k ents 0 with
  | none => rfl
  | some r => rw [findNow_run hu w ents 0 r h]; rfl
theorem checkSimple_run {t : TypeId} (h : simpleT P t = true) (em : Bool) (n : Nat) (v : Value) (w : World) : (Instr.checkKey em (n + 1) t v).run P w = .ok () w := by
  unfold simpleT at h
  unfold Instr.checkKey
  split at h <;> rename_i hu
  · simp [run_underlying hu]
  · simp [run_underlying hu]
  · simp [run_underlying hu]
  · cases h
theorem eqEs_parts {d : Nat} {e : TypeId} {n : Nat} : ∀ (len i : Nat) (xs ys : List AV) (b : Tm), eqEs P d e n len i xs ys = some b → ∀ j ∈ List.range' i len, ∃ v, partA P e xs (j * n) = some v
  | 0, i, xs, ys, b, h, j, hj => by simp at hj
  | len + 1, i, xs, ys, b, h, j, hj => by
    cases d with
    | zero => simp [eqEs] at h
    | succ d =>
      unfold eqEs at h
      split at h
      · rename_i a a' ha ha'
        split at h
        · rename_i p q hp hq
          rw [List.range'_succ] at hj
          simp only [List.mem_cons] at hj
          rcases hj with rfl | hj
          · exact ⟨a, ha⟩
          · exact eqEs_parts (d := d) len (i + 1) xs ys q hq j (by simpa using hj)
        · cases h
      · cases h
theorem eqFs_parts {d : Nat} : ∀ (fs : List Field) (xs ys : List AV) (b : Tm), eqFs P d fs xs ys = some b → ∀ f ∈ fs, f.name ≠ "_" → ∃ v, partA P f.type xs f.offset = some v
  | [], xs, ys, b, h, f, hf, _ => by cases hf
  | g :: fs, xs, ys, b, h, f, hf, hn => by
    cases d with
    | zero => simp [eqFs] at h
    | succ d =>
      unfold eqFs at h
      split at h
      · split at h
        · rename_i a a' ha ha'
          split at h
          · rename_i p q hp hq
            simp only [List.mem_cons] at hf
            rcases hf with rfl | hf
            · exact ⟨a, ha⟩
            · exact eqFs_parts (d := d) fs xs ys q hq f hf hn
          · cases h
        · cases h
      · rename_i hg
        simp only [List.mem_cons] at hf
        rcases hf with rfl | hf
        · exact absurd hn hg
        · exact eqFs_parts (d := d) fs xs ys b h f hf hn
theorem checkKey_run {μ : Mu} {kt : TypeId} {key : AV} (h1 : keyT P kt = true) (h2 : keyFits P kt key = true) {ck : Value} (hk : VR μ key ck) (em : Bool) (w : World) : (Instr.checkKey em 10000 kt ck).run P w = .ok () w := by
  unfold keyFits at h2
  split at h2
  case h_2 => cases h2
  rename_i b hb
  unfold keyT at h1
  unfold Instr.checkKey
  split at h1 <;> rename_i hu
  · simp [run_underlying hu]
  · simp [run_underlying hu]
  · simp [run_underlying hu]
  · rename_i len e
    unfold eqDepth eqA at hb
    cases key <;> simp [hu] at hb
    case agg xs =>
      obtain ⟨c, hc, rfl⟩ := hk
      split at hb
      · rename_i n hn
        have parts := eqEs_parts len 0 xs xs b hb
        simp only [Sem.run_bind, run_underlying hu, Result.andThen_ok]
        simp only [Std.Legacy.Range.forIn_eq_forIn_range', Std.Legacy.Range.size, Nat.sub_zero, Nat.add_one_sub_one, Nat.div_one]
        generalize List.range' 0 len = is at parts
        induction is with
        | nil => simp
        | cons j is ih =>
          obtain ⟨v, hv⟩ := parts j (by simp)
          obtain ⟨y, p1, p2⟩ := partA_run hv hc w
          have p3 := checkSimple_run (P := P) h1 em 9998 y w
          simp only [List.forIn_cons, Sem.run_bind, szOf_run hn, Result.andThen_ok, p1, p3, Sem.run_pure]
          exact ih fun q hq => parts q (by simp [hq])
      · cases hb
  · rename_i fs
    unfold eqDepth eqA at hb
    cases key <;> simp [hu] at hb
    case agg xs =>
      obtain ⟨c, hc, rfl⟩ := hk
      obtain ⟨_, hb⟩ := hb
      have parts := eqFs_parts fs.toList xs xs b hb
      simp only [Sem.run_bind, run_underlying hu, Result.andThen_ok]
      rw [← Array.forIn_toList]
      have simp1 : ∀ f ∈ fs.toList, simpleT P f.type = true := fun f hf => List.all_eq_true.1 h1 f hf
      clear hb h1
      generalize fs.toList = L at parts simp1
      induction L with
      | nil => simp
      | cons f L ih =>
        by_cases hn : f.name = "_"
        · simp only [List.forIn_cons, Sem.run_bind, hn, ne_eq, not_true_eq_false, if_false, Result.andThen_ok, Sem.run_pure]
          exact ih (fun g hg => parts g (by simp [hg])) (fun g hg => simp1 g (by simp [hg]))
        · obtain ⟨v, hv⟩ := parts f (by simp) hn
          obtain ⟨y, p1, p2⟩ := partA_run hv hc w
          have p3 := checkSimple_run (P := P) (simp1 f (by simp)) em 9998 y w
          simp only [List.forIn_cons, Sem.run_bind, hn, ne_eq, not_false_eq_true, if_true, Result.andThen_ok, p1, p3, Sem.run_pure]
          exact ih (fun g hg => parts g (by simp [hg])) (fun g hg => simp1 g (by simp [hg]))
  · cases h1
theorem getMap_run {w : World} {b : Nat} {ents : Array MapEntry} {clock : Nat} (h : w.heap[b]? = some (.map ents clock)) : (getObj b).run P w = .ok (.map ents clock) w := by simp [getObj, Sem.run, h]
theorem setMap_run {w : World} {b : Nat} {ents : Array MapEntry} {clock : Nat} (o : Obj) (h : w.heap[b]? = some (.map ents clock)) : (setObj b o).run P w = .ok () { w with heap := w.heap.setIfInBounds b o } := by simp [setObj, Sem.run, h]
theorem rep_map {μ : Mu} {h : Nat → Option AObj} {w : World} (r : Rep μ h w) {id : Nat} {es : List (AV × AV)} (hg : h id = some (.map es)) : ∃ l ents clock es', μ id = some l ∧ w.heap[l.b]? = some (.map ents clock) ∧ es'.Perm es ∧ ERs μ es' ents.toList := by
  obtain ⟨l, ents, clock, es', h1, h2, h3⟩ := r.obj id _ hg
  exact ⟨l, ents, clock, es', h1, h2, h3⟩
theorem lookupA_run {t : TypeId} {x key v : AV} {ok : Bool} {H : Heap} (h : lookupA P t x key ok H = some v) {μ : Mu} {w : World} (r : Rep μ H.get w) {cx ck : Value} (hx : VR μ x cx) (hk : VR μ key ck) :
    ∃ c, (Instr.lookup t cx ck ok).run P w = .ok c w ∧ VR μ v c := by
  unfold lookupA at h
  split at h
  · rename_i kt et hu
    split at h
    · rename_i hkt
      simp only [Bool.and_eq_true] at hkt
      obtain ⟨kd, hkd⟩ : ∃ kd, P.underlying kt = some kd := by
        have := hkt.1
        unfold keyT at this
        cases hq : P.underlying kt with
        | none => rw [hq] at this; cases this
        | some kd => exact ⟨kd, rfl⟩
      split at h
      · rename_i es hes
        have fin : ∀ (es' : List (AV × AV)) (ents : Array MapEntry), es'.Perm es → ERs μ es' ents.toList → ∃ res c, (Instr.findKey kt ck ents.toList).run P w = .ok res w ∧ VR μ v c ∧
            ((∃ q, res = some q ∧ c = (if ok = true then .tuple #[q.2, .bool true] else q.2)) ∨ (res = none ∧ ∃ z, (zeroValue et).run P w = .ok z w ∧ c = if ok = true then .tuple #[z, .bool false] else z)) := by
          intro es' ents hp e2
          rw [findKey_run hkd]
          split at h
          · rename_i u hfa
            cases h
            rcases findA_run (P := P) hk w es es' hp _ hfa ents.toList e2 with ⟨h4, _⟩ | ⟨v', j, c, h4, h5, h6⟩
            · cases h4
            · cases h4
              refine ⟨_, _, h5, ?_, .inl ⟨_, rfl, rfl⟩⟩
              cases ok
              · exact h6
              · exact (show VR μ (.tuple [_, _]) (.tuple #[_, _]) from ⟨[_, _], ⟨_, _, h6, ⟨_, _, rfl, rfl, rfl⟩, rfl⟩, rfl⟩)
          · rename_i hfa
            rcases findA_run (P := P) hk w es es' hp _ hfa ents.toList e2 with ⟨_, h4⟩ | ⟨v', j, c, h4, _, _⟩
            · split at h
              · rename_i z hz
                cases h
                obtain ⟨cz, h5, h6⟩ := zeroA_run hz w
                have h7 : VR μ z cz := ofV_VR μ _ _ h6
                refine ⟨_, _, h4, ?_, .inr ⟨rfl, cz, h5, rfl⟩⟩
                cases ok
                · exact h7
                · exact (show VR μ (.tuple [_, _]) (.tuple #[_, _]) from ⟨[_, _], ⟨_, _, h7, ⟨_, _, rfl, rfl, rfl⟩, rfl⟩, rfl⟩)
              · cases h
            · cases h4
          · cases h
        split at hes
        · cases hes
          obtain rfl : cx = .map none := hx
          obtain ⟨res, c, f1, f2, f3⟩ := fin [] #[] (List.Perm.refl _) ⟨rfl, rfl⟩
          refine ⟨c, ?_, f2⟩
          unfold Instr.lookup
          have ek := checkKey_run hkt.1 hkt.2 hk (#[] : Array MapEntry).isEmpty w
          simp only [Sem.run_bind, run_underlying hu, Result.andThen_ok, Sem.run_pure, ek, f1]
          rcases f3 with ⟨q, rfl, rfl⟩ | ⟨rfl, z, h5, rfl⟩
          · simp only [Sem.run_bind, Result.andThen_ok, Sem.run_pure]
          · simp only [Sem.run_bind, Result.andThen_ok, Sem.run_pure, h5]
        · rename_i id
          split at hes
          · rename_i es' hg
            cases hes
            obtain ⟨l, ents, clock, es2, h1, h2, h0, h3⟩ := rep_map r hg
            obtain ⟨l', hl', rfl⟩ := hx
            rw [h1] at hl'; cases hl'
            obtain ⟨res, c, f1, f2, f3⟩ := fin es2 ents h0 h3
            refine ⟨c, ?_, f2⟩
            unfold Instr.lookup
            have ek := checkKey_run hkt.1 hkt.2 hk ents.isEmpty w
            simp only [Sem.run_bind, run_underlying hu, Result.andThen_ok, Sem.run_pure, getMap_run (P := P) h2, ek, f1]
            rcases f3 with ⟨q, rfl, rfl⟩ | ⟨rfl, z, h5, rfl⟩
            · simp only [Sem.run_bind, Result.andThen_ok, Sem.run_pure]
            · simp only [Sem.run_bind, Result.andThen_ok, Sem.run_pure, h5]
          · cases hes
        · cases hes
      · cases h
    · cases h
  · cases h
theorem map_set {μ : Mu} {H : Heap} {w : World} (r : Rep μ H.get w) (d : Dom μ H.next) {id : Nat} {es es' : List (AV × AV)} (hg : H.get id = some (.map es)) {l : Loc} (hl : μ id = some l) {ents ents' : Array MapEntry} {clock clock' : Nat} (hb : w.heap[l.b]? = some (.map ents clock)) {es2 : List (AV × AV)} (hp : es2.Perm es') (he : ERs μ es2 ents'.toList) :
    ∃ w', (setObj l.b (.map ents' clock')).run P w = .ok () w' ∧ Evo μ H.get H.next w μ (H.upd id (.map es')).get (H.upd id (.map es')).next w' := by
  have hlt : l.b < w.heap.size := (Array.getElem?_eq_some_iff.1 hb).1
  have k1 : (w.heap.setIfInBounds l.b (.map ents' clock'))[l.b]? = some (.map ents' clock') := by simp [hlt]
  have k2 : ∀ b, b ≠ l.b → (w.heap.setIfInBounds l.b (.map ents' clock'))[b]? = w.heap[b]? := fun b hne => by simp [Ne.symm hne]
  exact ⟨_, setMap_run _ hb, evo_upd r d hg rfl hl k2 (by simp) rfl rfl rfl ⟨l, ents', clock', es2, hl, k1, hp, he⟩⟩
theorem mapUpdateA_run {t : TypeId} {m key v : AV} {H H' : Heap} (h : mapUpdateA P t m key v H = some H') {μ : Mu} {w : World} (r : Rep μ H.get w) (d : Dom μ H.next) {cm ck cv : Value} (hm : VR μ m cm) (hk : VR μ key ck) (hv : VR μ v cv) :
    ∃ w', (Instr.mapUpdate t cm ck cv).run P w = .ok () w' ∧ Evo μ H.get H.next w μ H'.get H'.next w' := by
  unfold mapUpdateA at h
  split at h
  · rename_i kt et id hu
    split at h
    · rename_i hkt
      simp only [Bool.and_eq_true] at hkt
      split at h
      · rename_i es hg
        split at h
        · rename_i l hl
          cases h
          obtain ⟨L, ents, clock, es2, h1, h2, h0, h3⟩ := rep_map r hg
          obtain ⟨L', hL', rfl⟩ := hm
          rw [h1] at hL'; cases hL'
          obtain ⟨kd, hkd⟩ : ∃ kd, P.underlying kt = some kd := by
            have := hkt.1
            unfold keyT at this
            cases hq : P.underlying kt with
            | none => rw [hq] at this; cases this
            | some kd => exact ⟨kd, rfl⟩
          have ek := checkKey_run hkt.1 hkt.2 hk false w
          unfold Instr.mapUpdate
          simp only [Sem.run_bind, run_underlying hu, Result.andThen_ok, getMap_run (P := P) h2, ek, findKey_run hkd]
          rcases setA_run (P := P) hk hv w es es2 l h0 hl ents.toList h3 with ⟨j, e, l2, q1, q2, q3, q5, q4⟩ | ⟨q1, l2, q5, q2⟩
          · rw [q1]
            simp only [Result.andThen_ok, Sem.run_bind]
            have q2' : ents[j]? = some e := by simpa using q2
            rw [q2']
            simp only [Option.map_some, Option.getD_some, q3, Result.andThen_ok]
            exact map_set r d hg h1 h2 q5 (by simpa using q4)
          · rw [q1]
            simp only [Result.andThen_ok]
            exact map_set r d hg h1 h2 q5 (by simpa using q2 clock)
        · cases h
      · cases h
    · cases h
  · cases h
theorem newMap_run {H : Heap} {μ : Mu} {w : World} (r : Rep μ H.get w) (d : Dom μ H.next) :
    ∃ μ' c w', (do pure (.map (some (← newObj (.map #[] 0)))) : Sem Value).run P w = .ok c w' ∧ VR μ' (.map H.next) c ∧ Evo μ H.get H.next w μ' (H.new (.map [])).get (H.new (.map [])).next w' := by
  have p := Plus.refl w (.map #[] 0)
  refine ⟨setMu μ H.next ⟨w.heap.size, 0, 0, 0, 0⟩, .map (some w.heap.size), { w with heap := w.heap.push (.map #[] 0) }, ?_, ⟨⟨w.heap.size, 0, 0, 0, 0⟩, by simp [setMu], rfl⟩, evo_new r d p (.map []) ⟨w.heap.size, 0, 0, 0, 0⟩ rfl fun μ' _ hm => ⟨_, #[], 0, [], hm, p.at, List.Perm.refl _, rfl, rfl⟩⟩
  simp [newObj, Sem.run]
end
end Go.Proofs.Ytamibbjpapkfeaa.Ab
