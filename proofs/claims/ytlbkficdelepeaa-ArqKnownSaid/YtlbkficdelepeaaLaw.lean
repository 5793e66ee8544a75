/-
  Laws as contracts: what a slice of rows must be to be an argument.
  Conditions: as each theorem tells.
-/
import Derived.Test.YtlbkficdelepeaaAbF
namespace Go.Proofs.Ytlbkficdelepeaa.Ab
set_option linter.unusedSimpArgs false
set_option linter.unusedVariables false
open Go
set_option linter.unusedSectionVars false
noncomputable section
/-- A cell's datum, of its kind. -/
def normD : Kd → Dat → Dat
  | .kb, d => .dB d.asB
  | .ki _, d => .dI d.asI
  | .ks, d => .dS d.asS
theorem kdV_norm (kd : Kd) (d : Dat) : kdV kd (normD kd d) = kdV kd d := by cases kd <;> rfl
/-! ### ranges of data -/
def rngD : Kd → Dat → Bool
  | .kb, _ => true
  | .ki k, d => (Lit.int k d.asI).wf
  | .ks, d => Nat.ble d.asS.length maxLen
def rngR : List Kd → List Dat → Bool
  | [], _ => true
  | k :: sh, [] => rngD k (.dI 0) && rngR sh []
  | k :: sh, d :: r => rngD k d && rngR sh r
def rngL (sh : List Kd) (L : List (List Dat)) : Bool := Nat.ble L.length maxLen && L.all (rngR sh)
theorem rngD_ok {kd : Kd} {d : Dat} (h : rngD kd d = true) : okD kd (normD kd d) := by
  cases kd with
  | kb => exact ⟨_, rfl⟩
  | ki k => exact ⟨_, rfl, h⟩
  | ks => exact ⟨_, rfl, Nat.le_of_ble_eq_true h⟩
theorem rngR_ok : ∀ {sh : List Kd} {r : List Dat}, rngR sh r = true → ∀ (j : Nat) (kd : Kd), sh[j]? = some kd → okD kd (normD kd (r.getD j (.dI 0)))
  | [], _, _, j, kd, hj => by simp at hj
  | k :: sh, [], h, j, kd, hj => by
    simp only [rngR, Bool.and_eq_true] at h
    cases j with
    | zero =>
      simp at hj; subst hj
      exact rngD_ok h.1
    | succ j =>
      have := rngR_ok (r := []) h.2 j kd (by simpa using hj)
      simpa using this
  | k :: sh, d :: r, h, j, kd, hj => by
    simp only [rngR, Bool.and_eq_true] at h
    cases j with
    | zero =>
      simp at hj; subst hj
      exact rngD_ok h.1
    | succ j =>
      have := rngR_ok h.2 j kd (by simpa using hj)
      simpa using this
/-! ### as terms -/
/-- Is it in range whatever it is? -/
def evidT (k : IntKind) : Tm → Bool
  | .wrap k' _ => eqK k k'
  | .ib op k' _ _ => eqK k k' && (match op with
    | .add | .sub | .mul | .quo | .shl => true
    | _ => false)
  | .ci n => (Lit.int k n).wf
  | .at _ _ => eqK k .u8
  | _ => false
def rngT : Kd → Tm → Tm
  | .kb, _ => .cb true
  | .ki k, t => bif evidT k t then .cb true else andT (iopT .leq .i64 (.ci k.min) t) (iopT .leq .i64 t (.ci k.max))
  | .ks, t => iopT .leq .i64 (lenT t) (.ci (maxLen : Nat))
section
variable [ρ : Rho]
theorem wrap_wf (k : IntKind) (x : Int) : (Lit.int k (k.wrap x)).wf = true := by
  cases k <;> simp [Lit.wf, IntKind.wrap, IntKind.min, IntKind.max, IntKind.signed, IntKind.bits] <;> omega
theorem evidT_ok {k : IntKind} {t : Tm} (h : evidT k t = true) : (Lit.int k t.den.asI).wf = true := by
  unfold evidT at h
  split at h
  · rw [eqK_eq _ _ h]; exact wrap_wf _ _
  · rename_i op k' x y
    rw [Bool.and_eq_true] at h
    obtain ⟨h1, h2⟩ := h
    rw [eqK_eq _ _ h1]
    split at h2
    · exact wrap_wf _ _
    · exact wrap_wf _ _
    · exact wrap_wf _ _
    · exact wrap_wf _ _
    · exact wrap_wf _ _
    · cases h2
  · exact h
  · rename_i x i
    rw [eqK_eq _ _ h]
    have e : (Tm.at x i).den.asI = (((x.den.asS.getD i.den.asI.toNat 0).toNat : Nat) : Int) := rfl
    rw [e]
    have hb := (x.den.asS.getD i.den.asI.toNat 0).toNat_lt
    generalize (x.den.asS.getD i.den.asI.toNat 0).toNat = b at hb ⊢
    simp [Lit.wf, IntKind.min, IntKind.max, IntKind.signed, IntKind.bits]
    omega
  · cases h
theorem rngT_ok {kd : Kd} {t : Tm} (h : (rngT kd t).den.asB = true) : rngD kd t.den = true := by
  cases kd with
  | kb => rfl
  | ki k =>
    unfold rngT at h
    cases he : evidT k t with
    | true => exact evidT_ok he
    | false =>
      simp only [he, cond_false] at h
      rw [andT_den, iopT_den, iopT_den] at h
      have h' : (decide (k.min ≤ t.den.asI) && decide (t.den.asI ≤ k.max)) = true := h
      simp only [Bool.and_eq_true, decide_eq_true_eq] at h'
      show (Lit.int k t.den.asI).wf = true
      simp only [Lit.wf, Bool.and_eq_true, decide_eq_true_eq]
      exact h'
  | ks =>
    unfold rngT at h
    rw [iopT_den, lenT_den] at h
    have h' : decide ((t.den.asS.length : Int) ≤ (maxLen : Nat)) = true := h
    simp only [decide_eq_true_eq] at h'
    exact Nat.ble_eq_true_of_le (by omega)
end
def debW : List Kd → Tm → Tm
  | [], _ => .cb true
  | k :: l, r => match r with
    | .pair a u => andT (rngT k a) (debW l u)
    | _ => .cb false
/-- Of all elements of a row. -/
def debRows (sh : List Kd) : Tm → Tm
  | .row r => debW sh r
  | .lapp a b => andT (debRows sh a) (debRows sh b)
  | _ => .cb false
section
variable [ρ : Rho]
theorem debW_ok : ∀ (sh : List Kd) (r : Tm), (debW sh r).den.asB = true → rngR sh (cellsD r.den) = true
  | [], r, _ => by unfold rngR; rfl
  | k :: l, r, h => by
    unfold debW at h
    split at h
    · rename_i a u
      rw [andT_den, Bool.and_eq_true] at h
      show (rngD k a.den && rngR l (cellsD u.den)) = true
      rw [rngT_ok h.1, debW_ok l u h.2]; rfl
    · cases h
theorem debRows_ok (sh : List Kd) : ∀ (t : Tm), (debRows sh t).den.asB = true → t.den.asL.all (rngR sh) = true := fun t => by
  induction t with
  | row r =>
    intro h
    show ([cellsD r.den] : List (List Dat)).all (rngR sh) = true
    simp only [List.all_cons, List.all_nil, Bool.and_true]
    exact debW_ok sh r h
  | lapp a b iha ihb =>
    intro h
    unfold debRows at h
    rw [andT_den, Bool.and_eq_true] at h
    show (a.den.asL ++ b.den.asL).all (rngR sh) = true
    rw [List.all_append, iha h.1, ihb h.2]; rfl
  | _ => intro h; cases h
end
/-! ### arguments -/
/-- What must hold that a slice be rows of these kinds (rB: which function tells it of rows that are not told). -/
def rowsArg (sh : List Kd) (rB : Nat) : AV → Heap → Option Tm
  | .nilSlice, _ => some (.cb true)
  | .slice id 0 n cap, H => match H.get id with
    | some (.row vs _ _) => bif Nat.ble (n * sh.length) vs.length && (Nat.ble 1 n && Nat.ble n 1000000) && (match cap with
        | .known m => Nat.ble n m
        | .unk k => Nat.beq k sh.length) then (match rowsT sh (n + 1) (vs.take (n * sh.length)) with
          | some u => some (debRows sh u)
          | none => none) else none
    | _ => none
  | .sslice id k off len, H => match H.get id with
    | some (.seq sh' t _) => bif eqSh sh sh' && Nat.beq k sh.length && off.eqv (.ci 0) && len.eqv (.llen t) then some (.app rB t) else none
    | _ => none
  | _, _ => none
/-- Rows as an argument reads them. -/
def RowsV (sh : List Kd) (w : World) (c : Value) : Prop := c = .slice none 0 0 ∨ ∃ a len cap rows, c = .slice (some a) len cap ∧ len ≤ maxLen ∧ SliceAt w a len cap sh rows
section
variable [ρ : Rho]
def normL (sh : List Kd) (L : List (List Dat)) : List (List Dat) := (List.range L.length).map fun i => (List.range sh.length).map fun j => normD (sh.getD j .kb) ((L.getD i []).getD j (.dI 0))
theorem normL_len (sh : List Kd) (L : List (List Dat)) : (normL sh L).length = L.length := by simp [normL]
theorem normL_get {sh : List Kd} {L : List (List Dat)} {i : Nat} (hi : i < L.length) : (normL sh L).getD i [] = (List.range sh.length).map fun j => normD (sh.getD j .kb) ((L.getD i []).getD j (.dI 0)) := by
  simp [normL, List.getD_eq_getElem?_getD, hi]
theorem normL_at {sh : List Kd} {L : List (List Dat)} {i : Nat} (hi : i < L.length) {j : Nat} {kd : Kd} (hj : sh[j]? = some kd) : ((normL sh L).getD i []).getD j (.dI 0) = normD kd ((L.getD i []).getD j (.dI 0)) := by
  rw [normL_get hi]
  obtain ⟨hjl, hje⟩ := List.getElem?_eq_some_iff.1 hj
  simp [List.getD_eq_getElem?_getD, hjl, hje]
theorem rows_mk {sh : List Kd} {L : List (List Dat)} {w : World} {a : Addr} {len cap : Nat} (hs : a.spot = none) (hc : len ≤ cap) (hn : L.length = len) (hr : L.all (rngR sh) = true)
    (hat : ∃ c e lo hi, w.heap[a.block]? = some (.cells c e (lo, hi)) ∧ ∀ i, i < len → ∀ j kd, sh[j]? = some kd → c[a.off + (i * sh.length + j)]? = some (kdV kd ((L.getD i []).getD j (.dI 0)))) : SliceAt w a len cap sh (normL sh L) := by
  obtain ⟨c, e, lo, hi, h1, h2⟩ := hat
  subst hn
  refine ⟨hs, hc, normL_len _ _, ⟨c, e, lo, hi, h1, fun i hi j kd hj => ?_⟩, fun i hi j kd hj => ?_, fun i hi => ?_⟩
  · rw [normL_at hi hj, kdV_norm]; exact h2 i hi j kd hj
  · rw [normL_at hi hj]
    refine rngR_ok (sh := sh) ?_ j kd hj
    rw [List.all_eq_true] at hr
    refine hr _ ?_
    rw [List.getD_eq_getElem?_getD, List.getElem?_eq_getElem hi]
    exact List.getElem_mem hi
  · rw [normL_get hi]; simp
theorem cells_of {μ : Mu} {cs : Array Value} : ∀ (vs : List AV) (o : Nat), (∀ i x, vs[i]? = some x → ∃ y, cs[o + i]? = some y ∧ VR μ x y) → ∃ cl : List Value, VRs μ vs cl ∧ ∀ (i : Nat) (y : Value), cl[i]? = some y → cs[o + i]? = some y
  | [], o, _ => ⟨[], rfl, fun i y h => by simp at h⟩
  | v :: vs, o, h => by
    obtain ⟨y, q1, q2⟩ := h 0 v rfl
    obtain ⟨cl, q3, q4⟩ := cells_of vs (o + 1) fun i x hx => by
      have := h (i + 1) x (by simpa using hx)
      rwa [show o + (i + 1) = o + 1 + i by omega] at this
    refine ⟨y :: cl, ⟨y, cl, q2, q3, rfl⟩, fun i z hz => ?_⟩
    cases i with
    | zero => simp at hz; subst hz; exact q1
    | succ i =>
      have := q4 i z (by simpa using hz)
      rwa [show o + (i + 1) = o + 1 + i by omega]
theorem rowsArg_ok {sh : List Kd} (hk : 0 < sh.length) {rB : Nat} (hB : ∀ d, ρ.fn rB d = .dB (rngL sh d.asL)) {x : AV} {H : Heap} {q : Tm} (h : rowsArg sh rB x H = some q) (hq : q.den.asB = true) {μ : Mu} {w : World} {c : Value} (hv : VR μ x c) (r : Rep μ H.get w) : RowsV sh w c := by
  unfold rowsArg at h
  split at h
  · exact .inl hv
  · rename_i id n cap
    split at h
    · rename_i vs own lf hget
      generalize hcap : (match cap with
        | .known m => Nat.ble n m
        | .unk k => Nat.beq k sh.length) = bc at h
      cases hb : (Nat.ble (n * sh.length) vs.length && (Nat.ble 1 n && Nat.ble n 1000000) && bc) with
      | false => rw [hb] at h; cases h
      | true =>
        rw [hb] at h
        simp only [Bool.and_eq_true] at hb
        obtain ⟨⟨h1, h2, h3⟩, h4⟩ := hb
        have h1 := Nat.le_of_ble_eq_true h1
        have h2 := Nat.le_of_ble_eq_true h2
        have h3 := Nat.le_of_ble_eq_true h3
        subst hcap
        simp only [cond_true] at h
        split at h
        · rename_i u hu
          cases h
          obtain ⟨l, cs, e, lo, hi, ⟨k1, _⟩, k2, k3, k4, k5, k6, k7⟩ := r.obj id _ hget
          obtain ⟨l', hl', hc⟩ := hv
          rw [k1] at hl'; cases hl'
          obtain ⟨m, hcm, hnm⟩ : ∃ m, c = .slice (some ⟨l.b, l.s + 0, none⟩) n m ∧ n ≤ m := by
            cases cap with
            | known m => exact ⟨m, hc, Nat.le_of_ble_eq_true h4⟩
            | unk k =>
              obtain ⟨c1, c2, _, c3, c4⟩ := hc
              rcases c4 with c4 | ⟨c4, _⟩
              · refine ⟨_, c4, ?_⟩
                have : n * k ≤ l.cap * k := by
                  rw [c2] at k4
                  omega
                have := Nat.le_of_mul_le_mul_right this c1
                simpa using this
              · omega
          obtain ⟨cl, hcl, hg⟩ := cells_of (cs := cs) (vs.take (n * sh.length)) l.s fun i x hx => by
            have hx' : vs[i]? = some x := by
              rw [List.getElem?_take] at hx
              split at hx
              · exact hx
              · cases hx
            exact (k7 i x hx').2
          obtain ⟨r1, r2⟩ := rowsT_rows hk _ hu hcl
          have hlen : u.den.asL.length = n := by
            rw [List.length_take, Nat.min_eq_left h1] at r1
            exact Nat.eq_of_mul_eq_mul_right hk r1
          refine .inr ⟨⟨l.b, l.s + 0, none⟩, n, m, _, hcm, Nat.le_trans h3 (by decide), rows_mk (L := u.den.asL) rfl hnm hlen (debRows_ok sh u hq) ⟨cs, e, lo, hi, k2, fun i hi' j kd hj => ?_⟩⟩
          have := hg _ _ (r2 i (by rw [hlen]; exact hi') j kd hj)
          simpa using this
        · cases h
    · cases h
  · rename_i id k off len
    split at h
    · rename_i sh' t own hget
      cases hb : (eqSh sh sh' && Nat.beq k sh.length && off.eqv (.ci 0) && len.eqv (.llen t)) with
      | false => rw [hb] at h; cases h
      | true =>
        rw [hb] at h
        simp only [Bool.and_eq_true] at hb
        obtain ⟨⟨⟨h1, h2⟩, h3⟩, h4⟩ := hb
        cases h
        obtain rfl := eqSh_eq h1
        obtain rfl := Nat.eq_of_beq_eq_true h2
        obtain rfl := Tm.eqv_eq _ _ h3
        obtain rfl := Tm.eqv_eq _ _ h4
        have hq' : (ρ.fn rB t.den).asB = true := hq
        rw [hB] at hq'
        have hq' : rngL sh t.den.asL = true := hq'
        unfold rngL at hq'
        rw [Bool.and_eq_true] at hq'
        have hlm := Nat.le_of_ble_eq_true hq'.1
        obtain ⟨l, k1, ⟨k2, k3⟩, k4, k5⟩ := r.obj id _ hget
        obtain ⟨l', hl', v1, v2, v3, v4, ⟨v5, v6⟩, v7⟩ := hv
        rw [k1] at hl'; cases hl'
        have e0 : (Tm.ci 0).den.asI = 0 := rfl
        have e1 : (Tm.llen t).den.asI = (t.den.asL.length : Int) := rfl
        rw [e0, e1] at v6 v7
        rcases v7 with ⟨hn, v7⟩ | ⟨_, _, v7⟩
        · have ks : SeqAt l w sh t.den.asL own := by
            rcases k5 with ⟨k5, _⟩ | ⟨_, k5⟩
            · rw [hn] at k5; cases k5
            · exact k5
          obtain ⟨cs, e, lo, hi, s1, _, _, s4⟩ := ks
          rcases v7 with v7 | ⟨v7, o, v8⟩
          · refine .inr ⟨⟨l.b, l.s + 0, none⟩, t.den.asL.length, l.cap, _, ?_, hlm, rows_mk (L := t.den.asL) rfl ?_ rfl hq'.2 ⟨cs, e, lo, hi, s1, fun i hi' j kd hj => ?_⟩⟩
            · simpa using v7
            · simp at v6; exact v6
            · have := s4 i hi' j kd hj
              rw [k2] at this
              simpa using this
          · have hz : t.den.asL.length = 0 := by omega
            refine .inr ⟨⟨l.b, o, none⟩, 0, 0, _, v8, Nat.zero_le _, rows_mk (L := t.den.asL) rfl (Nat.le_refl _) hz hq'.2 ⟨cs, e, lo, hi, s1, fun i hi' => by omega⟩⟩
        · exact .inl v7
    · cases h
  · cases h
/-- Rows that are not told, as an argument reads them. -/
theorem seqArg_ok {sh : List Kd} {t : Tm} {id : Nat} {own : Bool} {μ : Mu} {w : World} {c : Value} (hv : VR μ (.sslice id sh.length (.ci 0) (.llen t)) c) (hr : RepO μ id w (.seq sh t own)) (hq : rngL sh t.den.asL = true) :
    (c = .slice none 0 0 ∧ t.den.asL = []) ∨ ∃ a len cap, c = .slice (some a) len cap ∧ len ≤ maxLen ∧ SliceAt w a len cap sh (normL sh t.den.asL) := by
  unfold rngL at hq
  rw [Bool.and_eq_true] at hq
  have hlm := Nat.le_of_ble_eq_true hq.1
  obtain ⟨l, k1, ⟨k2, k3⟩, k4, k5⟩ := hr
  obtain ⟨l', hl', v1, v2, v3, v4, ⟨v5, v6⟩, v7⟩ := hv
  rw [k1] at hl'; cases hl'
  have e0 : (Tm.ci 0).den.asI = 0 := rfl
  have e1 : (Tm.llen t).den.asI = (t.den.asL.length : Int) := rfl
  rw [e0, e1] at v6 v7
  rcases v7 with ⟨hn, v7⟩ | ⟨_, hz, v7⟩
  · have ks : SeqAt l w sh t.den.asL own := by
      rcases k5 with ⟨k5, _⟩ | ⟨_, k5⟩
      · rw [hn] at k5; cases k5
      · exact k5
    obtain ⟨cs, e, lo, hi, s1, _, _, s4⟩ := ks
    rcases v7 with v7 | ⟨v7, o, v8⟩
    · refine .inr ⟨⟨l.b, l.s + 0, none⟩, t.den.asL.length, l.cap, ?_, hlm, rows_mk (L := t.den.asL) rfl ?_ rfl hq.2 ⟨cs, e, lo, hi, s1, fun i hi' j kd hj => ?_⟩⟩
      · simpa using v7
      · simp at v6; exact v6
      · have := s4 i hi' j kd hj
        rw [k2] at this
        simpa using this
    · have hz : t.den.asL.length = 0 := by omega
      refine .inr ⟨⟨l.b, o, none⟩, 0, 0, v8, Nat.zero_le _, rows_mk (L := t.den.asL) rfl (Nat.le_refl _) hz hq.2 ⟨cs, e, lo, hi, s1, fun i hi' => by omega⟩⟩
  · refine .inl ⟨v7, List.eq_nil_of_length_eq_zero ?_⟩
    omega
end
end
end Go.Proofs.Ytlbkficdelepeaa.Ab
