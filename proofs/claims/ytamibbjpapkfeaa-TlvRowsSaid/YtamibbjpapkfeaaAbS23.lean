import Derived.Test.YtamibbjpapkfeaaAbS21
namespace Go.Proofs.Ytamibbjpapkfeaa.Ab
set_option linter.unusedSimpArgs false
set_option linter.unusedVariables false
open Go
set_option linter.unusedSectionVars false
variable [Rho]
section
variable {P : Program}
/-- An operation that writes a block in which no object lies. -/
theorem Inv.other {n nt : Nat} {df : List (FuncId × List AV)} {f0 : Nat → Option AV} {h0 : Nat → Option AObj} {nx : Nat → Nat} {dst : Nat → Option Nat} {V : Nat → AV} {tc : Nat → Nat → Prop} {D : Nat → Nat → Option AObj}
    {μ0 : Mu} {w0 : World} {X : Nat → Bool} {μ : Mu} {a : Act} {w : World} (I : Inv P n nt df f0 h0 nx dst V tc D μ0 w0 X μ a w)
    {j : Nat} (hj : j < n) (hdst : dst j = none) (htc : ∀ id, ¬ tc j id) {b : Nat} (hb : w0.heap.size ≤ b) (o : Obj)
    (hfree : ∀ id ob l, sX h0 tc D X n id = some ob → μ id = some l → l.b ≠ b) :
    Inv P n nt df f0 h0 nx dst V tc D μ0 w0 (fun i => if i = j then true else X i) μ a { w with heap := w.heap.setIfInBounds b o } := by
  have hX' : ∀ i, i ≠ j → (if i = j then true else X i) = X i := fun i h => by simp [h]
  have hs : ∀ id k, sX h0 tc D (fun i => if i = j then true else X i) k id = sX h0 tc D X k id := fun id k =>
    sX_agree id k fun i _ hi => hX' i (fun e => htc id (e ▸ hi))
  have hf : ∀ t k, fX f0 dst V (fun i => if i = j then true else X i) k t = fX f0 dst V X k t := fun t k =>
    fX_agree t k fun i _ hi => hX' i (fun e => by subst e; rw [hdst] at hi; cases hi)
  have hkeep : ∀ c, c ≠ b → (w.heap.setIfInBounds b o)[c]? = w.heap[c]? := fun c hc => by simp [Ne.symm hc]
  have hm : ∀ c, Mine μ (sX h0 tc D (fun i => if i = j then true else X i) n) c → Mine μ (sX h0 tc D X n) c := fun c m => by
    obtain ⟨q, oq, l, h1, h2, h3, h4⟩ := m
    exact ⟨q, oq, l, by rw [← hs]; exact h1, h2, h3, h4⟩
  refine ⟨fun i hi => ?_, I.nt, I.df, fun k hk t v hno hv => ?_, fun k hk id ob hno ho => ?_, fun i k oi ok li lk h1 h2 => ?_, fun id l h => ?_, I.ext, I.old, fun c hc hn => ?_, fun c m hc => I.mine c (hm c m) hc, fun id ob h => ?_, ?_, I.os, I.tape, I.output⟩
  · by_cases e : i = j
    · omega
    · simp only [hX' i e] at hi; exact I.inn i hi
  · rw [hf] at hv
    exact I.fr k hk t v (fun i hi hx => hno i hi (by by_cases e : i = j <;> simp [e, hx])) hv
  · rw [hs] at ho
    refine (I.ob k hk id ob (fun i hi hx => hno i hi (by by_cases e : i = j <;> simp [e, hx])) ho).keep (Ext.refl _) fun l hl => hkeep _ ?_
    refine hfree id ob l ?_ (cutMu_some hl).2
    rw [sX_skip id k n hk fun i hi _ hx => hno i hi (by by_cases e : i = j <;> simp [e, hx])]
    exact ho
  · rw [hs] at h1 h2
    exact I.inj i k oi ok li lk h1 h2
  · rcases I.dom id l h with h1 | ⟨i, h1, h2, h3, h4⟩
    · exact .inl h1
    · exact .inr ⟨i, h1, by by_cases e : i = j <;> simp [e, h2], h3, h4⟩
  · rw [show ({ w with heap := w.heap.setIfInBounds b o } : World).heap[c]? = w.heap[c]? from hkeep c (by omega)]
    exact I.keep c hc hn
  · rw [hs] at h
    exact I.live id ob h
  · show w0.heap.size ≤ (w.heap.setIfInBounds b o).size
    rw [Array.size_setIfInBounds]; exact I.size
/-- The pairs of the inserts that were done. -/
def pairsX (pr : Nat → Option (AV × AV)) (X : Nat → Bool) (n : Nat) : List (AV × AV) := (List.range n).filterMap fun i => bif X i then pr i else none
theorem pairsX_succ (pr : Nat → Option (AV × AV)) (X : Nat → Bool) (n : Nat) : pairsX pr X (n + 1) = pairsX pr X n ++ (bif X n then (pr n).toList else []) := by
  unfold pairsX
  rw [List.range_succ, List.filterMap_append]
  congr 1
  cases hX : X n <;> cases h : pr n <;> simp [List.filterMap_cons, hX, h]
theorem pairsX_out {pr : Nat → Option (AV × AV)} {X : Nat → Bool} {j : Nat} : ∀ n, n ≤ j → pairsX pr (fun i => if i = j then true else X i) n = pairsX pr X n
  | 0, _ => rfl
  | n + 1, h => by
    rw [pairsX_succ, pairsX_succ, pairsX_out n (by omega)]
    simp [show n ≠ j by omega]
theorem pairsX_same {pr : Nat → Option (AV × AV)} {X : Nat → Bool} {j : Nat} (hp : pr j = none) (hX : X j = false) : ∀ n, pairsX pr (fun i => if i = j then true else X i) n = pairsX pr X n
  | 0 => rfl
  | n + 1 => by
    rw [pairsX_succ, pairsX_succ, pairsX_same hp hX n]
    by_cases e : n = j
    · subst e; simp [hp, hX]
    · simp [e]
theorem pairsX_add {pr : Nat → Option (AV × AV)} {X : Nat → Bool} {j : Nat} {p : AV × AV} (hp : pr j = some p) (hX : X j = false) : ∀ n, j < n → (pairsX pr (fun i => if i = j then true else X i) n).Perm (p :: pairsX pr X n)
  | 0, h => by omega
  | n + 1, h => by
    rw [pairsX_succ, pairsX_succ]
    by_cases e : n = j
    · subst e
      rw [pairsX_out n (Nat.le_refl _)]
      simp only [if_true, cond_true, hp, hX, cond_false, Option.toList_some, List.append_nil]
      exact List.perm_append_singleton _ _
    · simp only [e, if_false]
      exact (pairsX_add hp hX n (by omega)).append_right _
/-- What an operation may have done to the map of numbers, to the world and to the objects. -/
structure Lk (h : Nat → Option AObj) (μ : Mu) (w : World) (μ' : Mu) (w' : World) (h' : Nat → Option AObj) : Prop where
  ext : Ext μ μ'
  old : ∀ q l, μ' q = some l → μ q = none → w.heap.size ≤ l.b ∨ Mine μ h l.b
  keep : ∀ c, c < w.heap.size → ¬ Mine μ h c → w'.heap[c]? = w.heap[c]?
  live : ∀ q o, h' q = some o → (∃ o0, h q = some o0) ∨ μ q = none
/-- The map of a literal, when just the operations in X were done: m0 makes it, pr tells the inserts into it. -/
def LitJ (w0 : World) (id m0 n : Nat) (pr : Nat → Option (AV × AV)) (X : Nat → Bool) (μ : Mu) (w : World) (h : Nat → Option AObj) : Prop :=
  (X m0 = false → ∀ i, pr i ≠ none → X i = false) ∧
  (X m0 = true → ∃ l ents clock es, μ id = some l ∧ w0.heap.size ≤ l.b ∧ w.heap[l.b]? = some (.map ents clock) ∧ es.Perm (pairsX pr X n) ∧ ERs μ es ents.toList ∧ ∀ q o lq, h q = some o → μ q = some lq → lq.b ≠ l.b)
theorem LitJ.other {w0 w w' : World} {id m0 n j : Nat} {pr : Nat → Option (AV × AV)} {X : Nat → Bool} {μ μ' : Mu} {h h' : Nat → Option AObj} (J : LitJ w0 id m0 n pr X μ w h) (hX : X j = false) (hp : pr j = none) (hm : m0 ≠ j)
    (L : Lk h μ w μ' w' h') : LitJ w0 id m0 n pr (fun i => if i = j then true else X i) μ' w' h' := by
  refine ⟨fun hf i hi => ?_, fun ht => ?_⟩
  · simp only [if_neg hm] at hf
    have : i ≠ j := fun e => hi (e ▸ hp)
    simp only [if_neg this]; exact J.1 hf i hi
  · simp only [if_neg hm] at ht
    obtain ⟨l, ents, clock, es, h1, h2, h3, h4, h5, h6⟩ := J.2 ht
    have hlt : l.b < w.heap.size := (Array.getElem?_eq_some_iff.1 h3).1
    have hM : ¬ Mine μ h l.b := fun m => by
      obtain ⟨q, o, lq, m1, m2, m3, m4⟩ := m
      exact h6 q o lq m1 m3 m4
    refine ⟨l, ents, clock, es, L.ext _ _ h1, h2, by rw [L.keep l.b hlt hM, h3], by rw [pairsX_same hp hX]; exact h4, ⟨h5.1.ext L.ext, h5.2.ext L.ext⟩, fun q o lq ho hq e => ?_⟩
    have key : μ q = none → False := fun hc => by
      rcases L.old q lq hq hc with h7 | h7
      · omega
      · exact hM (e ▸ h7)
    rcases L.live q o ho with ⟨o0, h7⟩ | h7
    · cases hc : μ q with
      | some l1 =>
        have := L.ext q l1 hc
        rw [hq] at this; cases this
        exact h6 q o0 lq h7 hc e
      | none => exact key hc
    · exact key h7
theorem pairsX_none {pr : Nat → Option (AV × AV)} {X : Nat → Bool} (h : ∀ i, pr i ≠ none → X i = false) : ∀ n, pairsX pr X n = []
  | 0 => rfl
  | n + 1 => by
    rw [pairsX_succ, pairsX_none h n]
    cases hp : pr n with
    | none => cases X n <;> rfl
    | some p => rw [h n (by rw [hp]; simp)]; rfl
/-- The making of it. -/
theorem LitJ.make {w0 w w' : World} {id m0 n : Nat} {pr : Nat → Option (AV × AV)} {X : Nat → Bool} {μ μ' : Mu} {h h' : Nat → Option AObj} (J : LitJ w0 id m0 n pr X μ w h) (hX : X m0 = false) (hp : pr m0 = none)
    {l : Loc} {ents : Array MapEntry} {clock : Nat} {es : List (AV × AV)} (h1 : μ' id = some l) (h2 : w0.heap.size ≤ l.b) (h3 : w'.heap[l.b]? = some (.map ents clock)) (h4 : es.Perm []) (h5 : ERs μ' es ents.toList)
    (h6 : ∀ q o lq, h' q = some o → μ' q = some lq → lq.b ≠ l.b) : LitJ w0 id m0 n pr (fun i => if i = m0 then true else X i) μ' w' h' := by
  refine ⟨fun hf => by simp at hf, fun _ => ⟨l, ents, clock, es, h1, h2, h3, ?_, h5, h6⟩⟩
  rw [pairsX_same hp hX, pairsX_none (J.1 hX)]; exact h4
/-- The insert itself. -/
theorem LitJ.insert {w0 w : World} {id m0 n j : Nat} {pr : Nat → Option (AV × AV)} {X : Nat → Bool} {μ : Mu} {h : Nat → Option AObj} (J : LitJ w0 id m0 n pr X μ w h) (hX : X j = false) (hj : j < n) {k v : AV} (hp : pr j = some (k, v)) (hm : X m0 = true) (hmj : m0 ≠ j)
    {kt et t : TypeId} (hu : P.underlying t = some (.map kt et)) (hkt : keyT P kt = true) (hkf : keyFits P kt k = true) {ck cv : Value} (hk : VR μ k ck) (hv : VR μ v cv) (hh : hitsA P kt k (pairsX pr X n) = some []) :
    ∃ l ents clock, μ id = some l ∧ w0.heap.size ≤ l.b ∧ (∀ q o lq, h q = some o → μ q = some lq → lq.b ≠ l.b) ∧
      (Instr.mapUpdate t (.map (some l.b)) ck cv).run P w = .ok () { w with heap := w.heap.setIfInBounds l.b (.map ents clock) } ∧
      LitJ w0 id m0 n pr (fun i => if i = j then true else X i) μ { w with heap := w.heap.setIfInBounds l.b (.map ents clock) } h := by
  obtain ⟨l, ents, clock, es, h1, h2, h3, h4, h5, h6⟩ := J.2 hm
  obtain ⟨kd, hkd⟩ : ∃ kd, P.underlying kt = some kd := by
    have := hkt
    unfold keyT at this
    cases hq : P.underlying kt with
    | none => rw [hq] at this; cases this
    | some kd => exact ⟨kd, rfl⟩
  have ek := checkKey_run hkt hkf hk false w
  obtain ⟨l', q1, q2⟩ := hitsA_perm h4 hh
  obtain rfl := q2.eq_nil
  have hf := hitsA_none hk w es q1 ents.toList 0 h5
  have hlt : l.b < w.heap.size := (Array.getElem?_eq_some_iff.1 h3).1
  refine ⟨l, ents.push ⟨ck, cv, clock⟩, clock + 1, h1, h2, h6, ?_, fun hf => ?_, fun _ => ⟨l, ents.push ⟨ck, cv, clock⟩, clock + 1, es ++ [(k, v)], h1, h2, by simp [hlt], ?_, ?_, h6⟩⟩
  · unfold Instr.mapUpdate
    simp only [Sem.run_bind, run_underlying hu, Result.andThen_ok, getMap_run (P := P) h3, ek, findKey_run hkd, hf]
    exact setMap_run _ h3
  · simp only [if_neg hmj] at hf
    rw [hm] at hf; cases hf
  · exact ((List.perm_append_singleton _ _).trans (h4.cons _)).trans (pairsX_add hp hX n hj).symm
  · simp only [Array.toList_push]
    constructor
    · rw [List.map_append, List.map_append]
      exact h5.1.append ⟨_, _, hk, rfl, rfl⟩
    · rw [List.map_append, List.map_append]
      exact h5.2.append ⟨_, _, hv, rfl, rfl⟩
/-- All literals of a region. -/
structure Lits (w0 : World) (n : Nat) (mk : Nat → Prop) (idf : Nat → Nat) (pr : Nat → Nat → Option (AV × AV)) (X : Nat → Bool) (μ : Mu) (w : World) (h : Nat → Option AObj) : Prop where
  one : ∀ m, m < n → mk m → LitJ w0 (idf m) m n (pr (idf m)) X μ w h
  two : ∀ m m' l l', m < n → m' < n → mk m → mk m' → X m = true → X m' = true → m ≠ m' → μ (idf m) = some l → μ (idf m') = some l' → l.b ≠ l'.b
theorem Lits.other {w0 w w' : World} {n j : Nat} {mk : Nat → Prop} {idf : Nat → Nat} {pr : Nat → Nat → Option (AV × AV)} {X : Nat → Bool} {μ μ' : Mu} {h h' : Nat → Option AObj} (J : Lits w0 n mk idf pr X μ w h) (hX : X j = false) (hp : ∀ id, pr id j = none) (hm : ¬ mk j)
    (L : Lk h μ w μ' w' h') : Lits w0 n mk idf pr (fun i => if i = j then true else X i) μ' w' h' := by
  have hne : ∀ m, mk m → m ≠ j := fun m h e => hm (e ▸ h)
  refine ⟨fun m hmn h1 => (J.one m hmn h1).other hX (hp _) (hne m h1) L, fun m m' l l' hn hn' h1 h2 h3 h4 h5 h6 h7 => ?_⟩
  simp only [if_neg (hne m h1)] at h3
  simp only [if_neg (hne m' h2)] at h4
  obtain ⟨l0, _, _, _, q1, _⟩ := (J.one m hn h1).2 h3
  obtain ⟨l1, _, _, _, q2, _⟩ := (J.one m' hn' h2).2 h4
  have e1 := L.ext _ _ q1
  have e2 := L.ext _ _ q2
  rw [h6] at e1; rw [h7] at e2; cases e1; cases e2
  exact J.two m m' l l' hn hn' h1 h2 h3 h4 h5 q1 q2
theorem Lits.make {w0 w w' : World} {n j : Nat} {mk : Nat → Prop} {idf : Nat → Nat} {pr : Nat → Nat → Option (AV × AV)} {X : Nat → Bool} {μ μ' : Mu} {h h' : Nat → Option AObj} (J : Lits w0 n mk idf pr X μ w h) (hX : X j = false) (hp : ∀ id, pr id j = none) (hjn : j < n) (hj : mk j)
    (hw : w0.heap.size ≤ w.heap.size) (L : Lk h μ w μ' w' h') {l : Loc} {ents : Array MapEntry} {clock : Nat} {es : List (AV × AV)} (h1 : μ' (idf j) = some l) (h2 : w.heap.size ≤ l.b) (h3 : w'.heap[l.b]? = some (.map ents clock)) (h4 : es.Perm []) (h5 : ERs μ' es ents.toList)
    (h6 : ∀ q o lq, h' q = some o → μ' q = some lq → lq.b ≠ l.b) : Lits w0 n mk idf pr (fun i => if i = j then true else X i) μ' w' h' := by
  have hold : ∀ m l', m < n → mk m → X m = true → μ' (idf m) = some l' → l'.b < w.heap.size := fun m l' hn hm hx hl => by
    obtain ⟨l0, _, _, _, q1, _, q3, _⟩ := (J.one m hn hm).2 hx
    have e1 := L.ext _ _ q1
    rw [hl] at e1; cases e1
    exact (Array.getElem?_eq_some_iff.1 q3).1
  refine ⟨fun m hmn hm => ?_, fun m m' l1 l2 hn hn' q1 q2 q3 q4 q5 q6 q7 => ?_⟩
  · by_cases e : m = j
    · subst e
      exact (J.one m hmn hm).make hX (hp _) h1 (by omega) h3 h4 h5 h6
    · exact (J.one m hmn hm).other hX (hp _) e L
  · by_cases e : m = j
    · subst e
      have e' : m' ≠ m := fun e => q5 e.symm
      simp only [if_neg e'] at q4
      have := hold m' l2 hn' q2 q4 q7
      rw [h1] at q6; cases q6
      omega
    · simp only [if_neg e] at q3
      have := hold m l1 hn q1 q3 q6
      by_cases e' : m' = j
      · subst e'
        rw [h1] at q7; cases q7
        omega
      · simp only [if_neg e'] at q4
        obtain ⟨l0, _, _, _, r1, _⟩ := (J.one m hn q1).2 q3
        obtain ⟨l3, _, _, _, r2, _⟩ := (J.one m' hn' q2).2 q4
        have e1 := L.ext _ _ r1
        have e2 := L.ext _ _ r2
        rw [q6] at e1; rw [q7] at e2; cases e1; cases e2
        exact J.two m m' l1 l2 hn hn' q1 q2 q3 q4 q5 r1 r2
theorem Lits.insert {w0 w : World} {n j m0 : Nat} {mk : Nat → Prop} {idf : Nat → Nat} {pr : Nat → Nat → Option (AV × AV)} {X : Nat → Bool} {μ : Mu} {h : Nat → Option AObj} (J : Lits w0 n mk idf pr X μ w h) (hX : X j = false) (hj : j < n) {k v : AV} (hp : pr (idf m0) j = some (k, v)) (hm : X m0 = true) (hmj : ¬ mk j) (hm0 : mk m0) (hmn : m0 < n)
    (hpo : ∀ id, id ≠ idf m0 → pr id j = none) (hinj : ∀ m, m < n → mk m → m ≠ m0 → idf m ≠ idf m0)
    {kt et t : TypeId} (hu : P.underlying t = some (.map kt et)) (hkt : keyT P kt = true) (hkf : keyFits P kt k = true) {ck cv : Value} (hk : VR μ k ck) (hv : VR μ v cv) (hh : hitsA P kt k (pairsX (pr (idf m0)) X n) = some []) :
    ∃ l ents clock, μ (idf m0) = some l ∧ w0.heap.size ≤ l.b ∧ (∀ q o lq, h q = some o → μ q = some lq → lq.b ≠ l.b) ∧
      (Instr.mapUpdate t (.map (some l.b)) ck cv).run P w = .ok () { w with heap := w.heap.setIfInBounds l.b (.map ents clock) } ∧
      Lits w0 n mk idf pr (fun i => if i = j then true else X i) μ { w with heap := w.heap.setIfInBounds l.b (.map ents clock) } h := by
  have hne : ∀ m, mk m → m ≠ j := fun m h e => hmj (e ▸ h)
  obtain ⟨l, ents, clock, h1, h2, h3, h4, h5⟩ := (J.one m0 hmn hm0).insert hX hj hp hm (hne m0 hm0) hu hkt hkf hk hv hh
  refine ⟨l, ents, clock, h1, h2, h3, h4, fun m hmn' hmk => ?_, fun m m' l1 l2 hn hn' q1 q2 q3 q4 q5 q6 q7 => ?_⟩
  · by_cases e : m = m0
    · subst e; exact h5
    · have J1 := J.one m hmn' hmk
      have hpj := hpo _ (hinj m hmn' hmk e)
      refine ⟨fun hf i hi => ?_, fun ht => ?_⟩
      · simp only [if_neg (hne m hmk)] at hf
        have : i ≠ j := fun e => hi (e ▸ hpj)
        simp only [if_neg this]; exact J1.1 hf i hi
      · simp only [if_neg (hne m hmk)] at ht
        obtain ⟨l', ents', clock', es, r1, r2, r3, r4, r5, r6⟩ := J1.2 ht
        have hbb : l'.b ≠ l.b := J.two m m0 l' l hmn' hmn hmk hm0 ht hm e r1 h1
        refine ⟨l', ents', clock', es, r1, r2, ?_, by rw [pairsX_same hpj hX]; exact r4, r5, r6⟩
        show (w.heap.setIfInBounds l.b _)[l'.b]? = _
        rw [Array.getElem?_setIfInBounds_ne (Ne.symm hbb)]; exact r3
  · simp only [if_neg (hne m q1)] at q3
    simp only [if_neg (hne m' q2)] at q4
    exact J.two m m' l1 l2 hn hn' q1 q2 q3 q4 q5 q6 q7
theorem Inv.link {n nt : Nat} {df : List (FuncId × List AV)} {f0 : Nat → Option AV} {h0 : Nat → Option AObj} {nx : Nat → Nat} {dst : Nat → Option Nat} {V : Nat → AV} {tc : Nat → Nat → Prop} {D : Nat → Nat → Option AObj}
    {μ0 : Mu} {w0 : World} {X : Nat → Bool} {μ : Mu} {a : Act} {w : World} (I : Inv P n nt df f0 h0 nx dst V tc D μ0 w0 X μ a w)
    (hnx : ∀ i k, i ≤ k → k ≤ n → nx i ≤ nx k) {j : Nat} (hj : j < n) (hX : X j = false)
    {F : List Nat} {R0 Rg : Nat → Option AObj} (hR0 : ∀ id o, R0 id = some o → id ∈ F ∧ sX h0 tc D X n id = some o)
    (htc : ∀ id, tc j id → ∀ i, i ≠ j → tc i id → (X i = true ↔ i < j))
    (hA : ∀ id o, tc j id → D j id = some o → Rg id = some o)
    {μ' : Mu} {w' : World} (ev : Evo (cutMu μ (nx j)) R0 (nx j) w μ' Rg (nx (j + 1)) w') :
    Lk (sX h0 tc D X n) μ w (fun id => if nx j ≤ id ∧ id < nx (j + 1) then μ' id else μ id) w' (sX h0 tc D (fun i => if i = j then true else X i) n) := by
  have hX' : ∀ i, i ≠ j → (if i = j then true else X i) = X i := fun i h => by simp [h]
  have hn0 : nx 0 ≤ nx j := hnx 0 j (by omega) (by omega)
  have hgap : ∀ id l, μ id = some l → ¬ (nx j ≤ id ∧ id < nx (j + 1)) := fun id l h hr => by
    rcases I.dom id l h with h1 | ⟨i, h1, h2, h3, h4⟩
    · omega
    · have hij : i ≠ j := fun e => by subst e; rw [hX] at h2; cases h2
      rcases Nat.lt_or_gt_of_ne hij with h5 | h5
      · have := hnx (i + 1) j (by omega) (by omega); omega
      · have := hnx (j + 1) i (by omega) (by omega); omega
  have hmine0 : ∀ b, Mine (cutMu μ (nx j)) R0 b → Mine μ (sX h0 tc D X n) b := fun b m => by
    obtain ⟨q, o, l, h1, h2, h3, h4⟩ := m
    exact ⟨q, o, l, (hR0 q o h1).2, h2, (cutMu_some h3).2, h4⟩
  refine ⟨fun id l h => ?_, fun q l h h1 => ?_, fun c hc hm => ev.keep c hc fun m => hm (hmine0 c m), fun q o h => ?_⟩
  · show (if _ then _ else _) = _; rw [if_neg (hgap id l h)]; exact h
  · by_cases hr : nx j ≤ q ∧ q < nx (j + 1)
    · simp only [if_pos hr] at h
      have hc : cutMu μ (nx j) q = none := by
        unfold cutMu
        split
        · exact h1
        · rfl
      rcases (ev.old q l h hc).2 with h2 | h2
      · exact .inl h2
      · exact .inr (hmine0 _ h2)
    · simp only [if_neg hr] at h
      rw [h1] at h; cases h
  · by_cases ht : tc j q
    · have e1 : sX h0 tc D (fun i => if i = j then true else X i) n q = D j q := by
        have e1 : sX h0 tc D (fun i => if i = j then true else X i) n q = sX h0 tc D (fun i => if i = j then true else X i) (j + 1) q := by
          refine sX_skip q (j + 1) n hj fun i hi hi' hx ht' => ?_
          have hne : i ≠ j := by omega
          simp only [hX' i hne] at hx
          have := (htc q ht i hne ht').1 hx
          omega
        rw [e1]
        simp [sX, ht]
      rw [e1] at h
      have hg := hA q o ht h
      obtain ⟨l, hl, _⟩ := (ev.rep.obj q o hg).mu
      rcases ev.live q o hg with ⟨o0, h2⟩ | h2
      · exact .inl ⟨o0, (hR0 q o0 h2).2⟩
      · refine .inr ?_
        cases hc : μ q with
        | none => rfl
        | some l' =>
          exfalso
          refine hgap q l' hc ⟨h2, ?_⟩
          rcases Nat.lt_or_ge q (nx (j + 1)) with h3 | h3
          · exact h3
          · rw [ev.dom q h3] at hl; cases hl
    · rw [show sX h0 tc D (fun i => if i = j then true else X i) n q = sX h0 tc D X n q from sX_agree q n fun i _ hi => hX' i (fun e => ht (e ▸ hi))] at h
      exact .inl ⟨o, h⟩
end
end Go.Proofs.Ytamibbjpapkfeaa.Ab
