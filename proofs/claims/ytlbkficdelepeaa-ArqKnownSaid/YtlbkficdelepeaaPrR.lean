/-
  ArqPair, in plain Lean: two sides and their lines: what holds of them, kept by every step.
  Conditions: as each theorem tells.
-/
import Derived.Test.YtlbkficdelepeaaPlyR
namespace Go.Proofs.Ytlbkficdelepeaa.Ab
set_option linter.unusedSimpArgs false
set_option linter.unusedVariables false
open Go
set_option linter.unusedSectionVars false
/-- The n-th information that is pushed. -/
def infoB (n : Int) : List UInt8 := [UInt8.ofNat (IntKind.u8.wrap (IntKind.i64.wrap (n.tdiv 256))).toNat] ++ ([UInt8.ofNat (IntKind.u8.wrap n).toNat] ++ [])
/-- A frame on a line: what was sent ahead (t), what it acknowledges (r). -/
structure FrOK (f : Frm) (t r : Int) : Prop where
  k7 : 7 ≤ f.k
  k10 : f.k ≤ 10
  nr : f.nr = r % 8
  i : f.k = 7 → ∃ n : Int, f.ns = n % 8 ∧ 0 ≤ n ∧ n < t ∧ t ≤ n + 7 ∧ f.info = infoB n
/-- A line: what was sent goes up, so does what is acknowledged. -/
def Ln (lt ht lr hr : Int) : List (List Dat) → Prop
  | [] => lt ≤ ht ∧ lr ≤ hr
  | c :: l => ∃ t r, lt ≤ t ∧ lr ≤ r ∧ FrOK (frOf c 0) t r ∧ Ln t ht r hr l
theorem Ln.hi : ∀ {l : List (List Dat)} {lt ht lr hr ht' hr' : Int}, Ln lt ht lr hr l → ht ≤ ht' → hr ≤ hr' → Ln lt ht' lr hr' l
  | [], _, _, _, _, _, _, h, h1, h2 => ⟨by have := h.1; omega, by have := h.2; omega⟩
  | _ :: _, _, _, _, _, _, _, ⟨t, r, a, b, c, d⟩, h1, h2 => ⟨t, r, a, b, c, d.hi h1 h2⟩
theorem Ln.lo : ∀ {l : List (List Dat)} {lt ht lr hr lt' lr' : Int}, Ln lt ht lr hr l → lt' ≤ lt → lr' ≤ lr → Ln lt' ht lr' hr l
  | [], _, _, _, _, _, _, h, h1, h2 => ⟨by have := h.1; omega, by have := h.2; omega⟩
  | _ :: _, _, _, _, _, _, _, ⟨t, r, a, b, c, d⟩, h1, h2 => ⟨t, r, by omega, by omega, c, d⟩
theorem Ln.ends : ∀ {l : List (List Dat)} {lt ht lr hr : Int}, Ln lt ht lr hr l → lt ≤ ht ∧ lr ≤ hr
  | [], _, _, _, _, h => h
  | _ :: _, _, _, _, _, ⟨t, r, a, b, c, d⟩ => by
    have := d.ends
    omega
theorem Ln.add : ∀ {l : List (List Dat)} {lt ht lr hr ht' hr' : Int} {c : List Dat}, Ln lt ht lr hr l → ht ≤ ht' → hr ≤ hr' → FrOK (frOf c 0) ht' hr' → Ln lt ht' lr hr' (l ++ [c])
  | [], _, _, _, _, _, _, c, h, h1, h2, f => ⟨_, _, by have := h.1; omega, by have := h.2; omega, f, Int.le_refl _, Int.le_refl _⟩
  | _ :: _, _, _, _, _, _, _, _, ⟨t, r, a, b, c, d⟩, h1, h2, f => ⟨t, r, a, b, c, d.add h1 h2 f⟩
/-- What was pushed. -/
def WOK (s : SSt) : Prop := ∀ j : Nat, (j : Int) < s.len → ((s.W.getD j []).getD 0 (.dI 0)).asS = infoB j
/-- One direction: from the side s to the side r. -/
structure Dir (s r : SSt) (p t : Int) (rows : List (List Dat)) : Prop where
  hp : p = s.len
  ht : t = r.got
  hw : WOK s
  ln : Ln r.got s.top r.acked s.got rows
/-- A line's cells. -/
structure Lok (N o n : Int) (L : List (List Dat)) : Prop where
  ho : 0 ≤ o
  hn : 0 ≤ n
  nN : n ≤ N
  le : o + n ≤ (L.length : Int)
def rowsOf (o n : Int) (L : List (List Dat)) : List (List Dat) := (L.drop o.toNat).take n.toNat
theorem Lok.len {N o n : Int} {L : List (List Dat)} (h : Lok N o n L) : ((rowsOf o n L).length : Int) = n := cut_len h.ho h.hn h.le
theorem Lok.mono {N M o n : Int} {L : List (List Dat)} (h : Lok N o n L) (hM : N ≤ M) : Lok M o n L := { h with nN := by have := h.nN; omega }
/-- A frame more. -/
theorem Lok.add {N o n : Int} {L : List (List Dat)} (h : Lok N o n L) (c : List Dat) : Lok (N + 1) 0 ((rowsOf o n L ++ [c]).length : Int) (rowsOf o n L ++ [c]) ∧ rowsOf 0 ((rowsOf o n L ++ [c]).length : Int) (rowsOf o n L ++ [c]) = rowsOf o n L ++ [c] := by
  have e := h.len
  have e2 : ((rowsOf o n L ++ [c]).length : Int) = n + 1 := by rw [List.length_append]; simp; omega
  have := h.nN; have := h.hn
  refine ⟨⟨Int.le_refl _, by omega, by omega, by omega⟩, ?_⟩
  show ((rowsOf o n L ++ [c]).drop 0).take ((rowsOf o n L ++ [c]).length : Int).toNat = _
  rw [List.drop_zero, Int.toNat_natCast, List.take_length]
/-- The first frame. -/
theorem Lok.pop {N o n : Int} {L : List (List Dat)} (h : Lok N o n L) (h0 : 0 < n) : Lok N (o + 1) (n - 1) L ∧ rowsOf o n L = L.getD o.toNat [] :: rowsOf (o + 1) (n - 1) L := by
  have a := h.ho; have b := h.hn; have c := h.nN; have d := h.le
  refine ⟨⟨by omega, by omega, by omega, by omega⟩, ?_⟩
  unfold rowsOf
  have hl : o.toNat < L.length := by omega
  rw [List.drop_eq_getElem_cons hl, show n.toNat = (n - 1).toNat + 1 by omega, List.take_succ_cons, show (o + 1).toNat = o.toNat + 1 by omega, List.getD_eq_getElem?_getD, List.getElem?_eq_getElem hl]
  rfl
/-! ### what the calls leave -/
theorem push_keep (s : SSt) (d : Dat) : (s.push d).2.top = s.top ∧ (s.push d).2.acked = s.acked ∧ (s.push d).2.got = s.got ∧ ((s.push d).1 = 0 → (s.push d).2.len = (s.W.length : Int) + 1 ∧ (s.push d).2.W = s.W ++ [[d]]) ∧ ((s.push d).1 ≠ 0 → (s.push d).2 = s) := by
  unfold SSt.push
  split
  · exact ⟨rfl, rfl, rfl, fun h => absurd h (show ¬ (4 : Int) = 0 by omega), fun _ => rfl⟩
  · split
    · exact ⟨rfl, rfl, rfl, fun h => absurd h (show ¬ (3 : Int) = 0 by omega), fun _ => rfl⟩
    · refine ⟨rfl, rfl, rfl, fun _ => ⟨rfl, ?_⟩, fun h => absurd rfl h⟩
      show ((s.W ++ [[d]]).drop (0 : Int).toNat).take ((s.W.length : Int) + 1).toNat = _
      exact cut_all _ _
theorem tick_keep (s : SSt) : s.tick.2.top = s.top ∧ s.tick.2.acked = s.acked ∧ s.tick.2.got = s.got ∧ s.tick.2.len = s.len ∧ s.tick.2.W = s.W := by
  have h : ∀ c : Prop, [Decidable c] → ∀ x y : Act × SSt, (x.2.top = s.top ∧ x.2.acked = s.acked ∧ x.2.got = s.got ∧ x.2.len = s.len ∧ x.2.W = s.W) → (y.2.top = s.top ∧ y.2.acked = s.acked ∧ y.2.got = s.got ∧ y.2.len = s.len ∧ y.2.W = s.W) → ((if c then x else y).2.top = s.top ∧ (if c then x else y).2.acked = s.acked ∧ (if c then x else y).2.got = s.got ∧ (if c then x else y).2.len = s.len ∧ (if c then x else y).2.W = s.W) := fun c _ x y h1 h2 => by
    by_cases hc : c
    · simp only [if_pos hc]; exact h1
    · simp only [if_neg hc]; exact h2
  exact h _ _ _ ⟨rfl, rfl, rfl, rfl, rfl⟩ (h _ _ _ ⟨rfl, rfl, rfl, rfl, rfl⟩ (h _ _ _ ⟨rfl, rfl, rfl, rfl, rfl⟩ ⟨rfl, rfl, rfl, rfl, rfl⟩))
theorem busy_keep (s : SSt) (b : Bool) : (s.setBusy b).top = s.top ∧ (s.setBusy b).acked = s.acked ∧ (s.setBusy b).got = s.got ∧ (s.setBusy b).len = s.len ∧ (s.setBusy b).W = s.W := by
  unfold SSt.setBusy
  split <;> exact ⟨rfl, rfl, rfl, rfl, rfl⟩
/-- What is said, and what it says. -/
theorem next_keep {N : Int} {a : ASt} {s : SSt} (h : Rel N a s) (w : WOK s) : s.top ≤ s.next.2.2.top ∧ s.next.2.2.acked = s.acked ∧ s.next.2.2.got = s.got ∧ s.next.2.2.len = s.len ∧ s.next.2.2.W = s.W ∧ (s.next.2.1 = true → FrOK s.next.1 s.next.2.2.top s.got) := by
  have b1 := h.acked0; have b2 := h.sent0; have b3 := h.top0; have b4 := h.len0; have b5 := h.lenk; have b6 := h.k7; have b7 := h.soff; have b8 := h.sL
  unfold SSt.next
  split
  · exact ⟨Int.le_refl _, rfl, rfl, rfl, rfl, fun h => by cases h⟩
  split
  · refine ⟨Int.le_refl _, rfl, rfl, rfl, rfl, fun _ => ⟨?_, ?_, rfl, fun hk => ?_⟩⟩
    · show 7 ≤ (if _ then (10 : Int) else if _ then 9 else 8)
      split
      · omega
      · split <;> omega
    · show (if _ then (10 : Int) else if _ then 9 else 8) ≤ 10
      split
      · omega
      · split <;> omega
    · exfalso
      have : (if s.busy = false ∧ s.reject = true then (10 : Int) else if s.busy = true then 9 else 8) = 7 := hk
      split at this
      · omega
      · split at this <;> omega
  split
  · refine ⟨Int.le_refl _, rfl, rfl, rfl, rfl, fun _ => ⟨?_, ?_, rfl, fun hk => ?_⟩⟩
    · show 7 ≤ (if _ then (9 : Int) else 8)
      split <;> omega
    · show (if _ then (9 : Int) else 8) ≤ 10
      split <;> omega
    · exfalso
      have : (if s.busy = true then (9 : Int) else 8) = 7 := hk
      split at this <;> omega
  split
  · rename_i hc
    refine ⟨by show s.top ≤ max s.top (s.sent + 1); omega, rfl, rfl, rfl, rfl, fun _ => ⟨by show (7 : Int) ≤ 7; omega, by show (7 : Int) ≤ 10; omega, rfl, fun _ => ⟨s.sent, rfl, by omega, by show s.sent < max s.top (s.sent + 1); omega, by show max s.top (s.sent + 1) ≤ s.sent + 7; omega, ?_⟩⟩⟩
    show infoAt s.L (s.off + s.sent) = _
    have e := w s.sent.toNat (by omega)
    rw [show ((s.sent.toNat : Nat) : Int) = s.sent by omega] at e
    rw [← e]
    unfold infoAt
    rw [← getD_cut (len := s.len) b7 (by omega) hc.2.2]
    rfl
  · exact ⟨Int.le_refl _, rfl, rfl, rfl, rfl, fun h => by cases h⟩
theorem kind_keep (s : SSt) (k : Int) : (s.kind k).top = s.top ∧ (s.kind k).acked = s.acked ∧ (s.kind k).got = s.got ∧ (s.kind k).len = s.len ∧ (s.kind k).W = s.W := ⟨rfl, rfl, rfl, rfl, rfl⟩
theorem answered_keep (s : SSt) (f : Frm) : (s.answered f).top = s.top ∧ (s.answered f).acked = s.acked ∧ (s.answered f).got = s.got ∧ (s.answered f).len = s.len ∧ (s.answered f).W = s.W := by
  unfold SSt.answered
  split <;> exact ⟨rfl, rfl, rfl, rfl, rfl⟩
theorem polled_keep (s : SSt) (f : Frm) : (s.polled f).top = s.top ∧ (s.polled f).acked = s.acked ∧ (s.polled f).got = s.got ∧ (s.polled f).len = s.len ∧ (s.polled f).W = s.W := by
  unfold SSt.polled
  split <;> exact ⟨rfl, rfl, rfl, rfl, rfl⟩
theorem take_keep (s : SSt) (ns : Int) (info : List UInt8) (d : Int) : (s.take ns info ⟨[], false, d, false⟩).2.top = s.top ∧ (s.take ns info ⟨[], false, d, false⟩).2.acked = s.acked ∧ (s.take ns info ⟨[], false, d, false⟩).2.len = s.len ∧ (s.take ns info ⟨[], false, d, false⟩).2.W = s.W ∧
    (((s.take ns info ⟨[], false, d, false⟩).1 = ⟨[], false, d, false⟩ ∧ (s.take ns info ⟨[], false, d, false⟩).2.got = s.got) ∨ ((s.take ns info ⟨[], false, d, false⟩).1 = ⟨info, true, d, false⟩ ∧ (s.take ns info ⟨[], false, d, false⟩).2.got = s.got + 1 ∧ ns % 8 = s.got % 8)) := by
  refine ⟨rfl, rfl, rfl, rfl, ?_⟩
  unfold SSt.take takS
  split
  · split
    · exact .inl ⟨rfl, rfl⟩
    · exact .inl ⟨rfl, rfl⟩
  · rename_i h
    split
    · exact .inl ⟨rfl, rfl⟩
    · exact .inr ⟨rfl, rfl, by simpa using h⟩
/-- What is heard of the other side: nothing is wrong, and what is taken is the next one. -/
theorem hear_keep {N : Int} {b : ASt} {s : SSt} (h : Rel N b s) {f : Frm} {t r : Int} (hf : FrOK f t r) (ht : s.got ≤ t) (ht6 : t ≤ s.got + 7) (hr : s.acked ≤ r) (hr2 : r ≤ s.top) :
    (s.hear f).2.top = s.top ∧ (s.hear f).2.len = s.len ∧ (s.hear f).2.W = s.W ∧ s.acked ≤ (s.hear f).2.acked ∧ (s.hear f).2.acked ≤ r ∧ (s.hear f).1.failed = false ∧
    ((s.hear f).1.taken = false → (s.hear f).2.got = s.got) ∧ ((s.hear f).1.taken = true → (s.hear f).2.got = s.got + 1 ∧ s.got + 1 ≤ t ∧ (s.hear f).1.info = infoB s.got) := by
  have b1 := h.acked0; have b2 := h.sent0; have b3 := h.top0; have b4 := h.len0; have b5 := h.lenk; have b6 := h.k7
  have c1 := hf.k7; have c2 := hf.k10; have c3 := hf.nr
  unfold SSt.hear
  split
  · exact ⟨rfl, rfl, rfl, Int.le_refl _, hr, rfl, fun _ => rfl, fun h => by cases h⟩
  · have ew : way8 s.acked f.nr = r - s.acked := by unfold way8; omega
    have ea : ackn s.acked s.top f.nr = (r, true) := by
      unfold ackn
      rw [ew, if_pos (by omega)]
      congr 1; omega
    simp only [ea]
    rw [if_neg (by simp)]
    generalize hs1 : ((({ s with acked := r, sent := max s.sent r, tries := if r - s.acked > 0 then 0 else s.tries } : SSt).kind f.k).answered f) = s1
    have k1 := answered_keep (({ s with acked := r, sent := max s.sent r, tries := if r - s.acked > 0 then 0 else s.tries } : SSt).kind f.k) f
    rw [hs1] at k1
    obtain ⟨k11, k12, k13, k14, k15⟩ := k1
    have k11 : s1.top = s.top := k11
    have k12 : s1.acked = r := k12
    have k13 : s1.got = s.got := k13
    have k14 : s1.len = s.len := k14
    have k15 : s1.W = s.W := k15
    by_cases h7 : f.k = 7
    · simp only [if_pos h7]
      obtain ⟨q1, q2, q3, q4, q5⟩ := take_keep s1 f.ns f.info (r - s.acked)
      generalize hx : s1.take f.ns f.info ⟨[], false, r - s.acked, false⟩ = x at *
      obtain ⟨p1, p2, p3, p4, p5⟩ := polled_keep x.2 f
      refine ⟨(p1.trans q1).trans k11, (p4.trans q3).trans k14, (p5.trans q4).trans k15, ?_, ?_, ?_, fun ht' => ?_, fun ht' => ?_⟩
      · show s.acked ≤ (x.2.polled f).acked
        rw [p2, q2, k12]; exact hr
      · show (x.2.polled f).acked ≤ r
        rw [p2, q2, k12]; exact Int.le_refl _
      · rcases q5 with ⟨q5, _⟩ | ⟨q5, _⟩ <;> rw [q5]
      · rcases q5 with ⟨q5, q6⟩ | ⟨q5, _⟩
        · show (x.2.polled f).got = s.got
          rw [p3, q6, k13]
        · rw [q5] at ht'; cases ht'
      · rcases q5 with ⟨q5, q6⟩ | ⟨q5, q6, q7⟩
        · rw [q5] at ht'; cases ht'
        · obtain ⟨n, n1, n2, n3, n4, n5⟩ := hf.i h7
          rw [k13] at q7
          have en : n = s.got := by omega
          refine ⟨?_, by omega, ?_⟩
          · show (x.2.polled f).got = s.got + 1
            rw [p3, q6, k13]
          · rw [q5]
            show f.info = _
            rw [n5, en]
    · simp only [if_neg h7]
      obtain ⟨p1, p2, p3, p4, p5⟩ := polled_keep s1 f
      refine ⟨p1.trans k11, p4.trans k14, p5.trans k15, ?_, ?_, by trivial, fun _ => p3.trans k13, fun h => by cases h⟩
      · show s.acked ≤ (s1.polled f).acked
        rw [p2, k12]; exact hr
      · show (s1.polled f).acked ≤ r
        rw [p2, k12]; exact Int.le_refl _
/-! ### both sides -/
structure Mst where
  p0 : Int
  p1 : Int
  t0 : Int
  t1 : Int
  bad : Bool
  o0 : Int
  n0 : Int
  L0 : List (List Dat)
  o1 : Int
  n1 : Int
  L1 : List (List Dat)
def Mst.swap (m : Mst) : Mst := ⟨m.p1, m.p0, m.t1, m.t0, m.bad, m.o1, m.n1, m.L1, m.o0, m.n0, m.L0⟩
def PInv (N : Int) (a b : ASt) (m : Mst) : Prop := ∃ sA sB, Rel N a sA ∧ Rel N b sB ∧ Dir sA sB m.p0 m.t0 (rowsOf m.o0 m.n0 m.L0) ∧ Dir sB sA m.p1 m.t1 (rowsOf m.o1 m.n1 m.L1) ∧ m.bad = false ∧ Lok N m.o0 m.n0 m.L0 ∧ Lok N m.o1 m.n1 m.L1 ∧ a.k = b.k
theorem PInv.swap {N : Int} {a b : ASt} {m : Mst} (h : PInv N a b m) : PInv N b a m.swap := by
  obtain ⟨sA, sB, h1, h2, h3, h4, h5, h6, h7, h8⟩ := h
  exact ⟨sB, sA, h2, h1, h4, h3, h5, h7, h6, h8.symm⟩
theorem PInv.mono {N M : Int} {a b : ASt} {m : Mst} (h : PInv N a b m) (hM : N ≤ M) : PInv M a b m := by
  obtain ⟨sA, sB, h1, h2, h3, h4, h5, h6, h7, h8⟩ := h
  exact ⟨sA, sB, h1.mono hM, h2.mono hM, h3, h4, h5, h6.mono hM, h7.mono hM, h8⟩
theorem WOK.same {s s' : SSt} (h : WOK s) (h1 : s'.len = s.len) (h2 : s'.W = s.W) : WOK s' := fun j hj => by rw [h2]; exact h j (by omega)
theorem Rel.kk {N M : Int} {a a' : ASt} {s s' : SSt} (h : Rel N a s) (h' : Rel M a' s') (e : s'.k = s.k) : a'.k = a.k := by rw [← h'.ek, e, h.ek]
theorem getD_left {W : List (List Dat)} {r : List Dat} {j : Nat} (h : j < W.length) : (W ++ [r]).getD j [] = W.getD j [] := by
  rw [List.getD_eq_getElem?_getD, List.getElem?_append_left h, ← List.getD_eq_getElem?_getD]
theorem getD_last {W : List (List Dat)} {r : List Dat} : (W ++ [r]).getD W.length [] = r := by
  rw [List.getD_eq_getElem?_getD, List.getElem?_append_right (Nat.le_refl _), Nat.sub_self]
  rfl
section
variable {N : Int} {a b : ASt} {m : Mst}
theorem PInv.push (h : PInv N a b m) : ((a.push (.dS (infoB m.p0))).1 = 0 → PInv (N + 1) (a.push (.dS (infoB m.p0))).2 b { m with p0 := m.p0 + 1 }) ∧ ((a.push (.dS (infoB m.p0))).1 ≠ 0 → PInv (N + 1) (a.push (.dS (infoB m.p0))).2 b m) := by
  obtain ⟨sA, sB, h1, h2, h3, h4, h5, h6, h7, h8⟩ := h
  obtain ⟨q1, q2⟩ := h1.push (.dS (infoB m.p0))
  obtain ⟨k1, k2, k3, k4, k5⟩ := push_keep sA (.dS (infoB m.p0))
  have ek : (a.push (.dS (infoB m.p0))).2.k = a.k := by
    unfold ASt.push
    split
    · rfl
    · split <;> rfl
  have hl := h1.slen
  have e3 := h3.hp
  constructor
  · intro h0
    obtain ⟨l1, l2⟩ := k4 (q1 ▸ h0)
    refine ⟨_, sB, q2, h2.mono (by omega), ⟨?_, h3.ht, fun j hj => ?_, ?_⟩, ⟨h4.hp, ?_, h4.hw, ?_⟩, h5, h6.mono (by omega), h7.mono (by omega), ek.trans h8⟩
    · show m.p0 + 1 = _
      rw [l1, hl, e3]
    · rw [l2]
      rw [l1] at hj
      by_cases hjj : (j : Int) < sA.len
      · rw [getD_left (by omega)]
        exact h3.hw j hjj
      · have ej : j = sA.W.length := by omega
        rw [ej, getD_last]
        show infoB m.p0 = _
        rw [e3, hl]
    · rw [k1, k3]; exact h3.ln
    · rw [k3]; exact h4.ht
    · rw [k2, k3]; exact h4.ln
  · intro h0
    have e := k5 (q1 ▸ h0)
    exact ⟨_, sB, q2, h2.mono (by omega), by rw [e]; exact h3, by rw [e]; exact h4, h5, h6.mono (by omega), h7.mono (by omega), ek.trans h8⟩
theorem ASt.next_k (a : ASt) : a.next.2.2.k = a.k := by
  unfold ASt.next
  repeat' split <;> try rfl
theorem frOf_frD (f : Frm) : frOf (frD f) 0 = f := rfl
theorem PInv.send (h : PInv N a b m) : (a.next.2.1 = true → PInv (N + 1) a.next.2.2 b { m with o0 := 0, n0 := ((rowsOf m.o0 m.n0 m.L0 ++ [frD a.next.1]).length : Int), L0 := rowsOf m.o0 m.n0 m.L0 ++ [frD a.next.1] }) ∧ (a.next.2.1 = false → PInv (N + 1) a.next.2.2 b m) := by
  obtain ⟨sA, sB, h1, h2, h3, h4, h5, h6, h7, h8⟩ := h
  obtain ⟨q1, q2, q3⟩ := h1.next
  obtain ⟨k1, k2, k3, k4, k5, k6⟩ := next_keep h1 h3.hw
  have ek := a.next_k
  constructor
  · intro h0
    obtain ⟨l1, l2⟩ := h6.add (frD a.next.1)
    refine ⟨_, sB, q3.mono (by omega), h2.mono (by omega), ⟨h3.hp.trans k4.symm, h3.ht, h3.hw.same k4 k5, ?_⟩, ⟨h4.hp, by rw [k3]; exact h4.ht, h4.hw, by rw [k2, k3]; exact h4.ln⟩, h5, l1, h7.mono (by omega), ek.trans h8⟩
    rw [l2]
    refine h3.ln.add k1 (by rw [k3]; exact Int.le_refl _) ?_
    rw [frOf_frD, q1, k3]
    exact k6 (q2 ▸ h0)
  · intro _
    exact ⟨_, sB, q3.mono (by omega), h2.mono (by omega), ⟨h3.hp.trans k4.symm, h3.ht, h3.hw.same k4 k5, by rw [k3]; exact h3.ln.hi k1 (Int.le_refl _)⟩, ⟨h4.hp, by rw [k3]; exact h4.ht, h4.hw, by rw [k2, k3]; exact h4.ln⟩, h5, h6.mono (by omega), h7.mono (by omega), ek.trans h8⟩
theorem PInv.lose (h : PInv N a b m) (h0 : 0 < m.n0) : PInv (N + 1) a b { m with o0 := m.o0 + 1, n0 := m.n0 - 1 } := by
  obtain ⟨sA, sB, h1, h2, h3, h4, h5, h6, h7, h8⟩ := h
  obtain ⟨l1, l2⟩ := h6.pop h0
  have hl := h3.ln
  rw [l2] at hl
  obtain ⟨t, r, c1, c2, c3, c4⟩ := hl
  exact ⟨sA, sB, h1.mono (by omega), h2.mono (by omega), ⟨h3.hp, h3.ht, h3.hw, c4.lo c1 c2⟩, h4, h5, l1.mono (by omega), h7.mono (by omega), h8⟩
theorem ASt.hear_k (a : ASt) (f : Frm) : (a.hear f).2.k = a.k := by
  have p : ∀ b : ASt, (b.polled f).k = b.k := fun b => by
    unfold ASt.polled
    split <;> rfl
  have q : ∀ b : ASt, (b.answered f).k = b.k := fun b => by
    unfold ASt.answered
    split <;> rfl
  have s : ∀ b : ASt, (b.kind f.k).k = b.k := fun b => by
    unfold ASt.kind
    repeat' split <;> try rfl
  unfold ASt.hear
  split
  · rfl
  · simp only
    split
    · rfl
    · show (ASt.polled _ f).k = a.k
      rw [p]
      split
      · show (ASt.answered _ f).k = a.k
        rw [q, s]; rfl
      · show (ASt.answered _ f).k = a.k
        rw [q, s]; rfl
/-- The first frame is heard: nothing is wrong. -/
theorem PInv.hand (h : PInv N a b m) (h0 : 0 < m.n0) : let x := b.hear (frOf (m.L0.getD m.o0.toNat []) 0); x.1.failed = false ∧ (x.1.taken = true → x.1.info = infoB m.t0) ∧ PInv (N + 1) a x.2 { m with o0 := m.o0 + 1, n0 := m.n0 - 1, t0 := if x.1.taken = true then m.t0 + 1 else m.t0 } := by
  obtain ⟨sA, sB, h1, h2, h3, h4, h5, h6, h7, h8⟩ := h
  obtain ⟨l1, l2⟩ := h6.pop h0
  have hl := h3.ln
  rw [l2] at hl
  obtain ⟨t, r, c1, c2, c3, c4⟩ := hl
  obtain ⟨q1, q2⟩ := h2.hear (frOf (m.L0.getD m.o0.toNat []) 0)
  have e1 := c4.ends
  have e2 := h4.ln.ends
  have b2 := h1.sent0; have b3 := h1.top0; have b4 := h1.len0; have b5 := h1.lenk; have b6 := h1.k7; have b7 := h3.ht
  obtain ⟨k1, k2, k3, k4, k5, k6, k7, k8⟩ := hear_keep h2 c3 c1 (by omega) c2 (by omega)
  have ek := b.hear_k (frOf (m.L0.getD m.o0.toNat []) 0)
  intro x
  have e : x.1 = _ := q1
  have ex : x.1.failed = false := by rw [e]; exact k6
  refine ⟨ex, fun ht => ?_, sA, _, h1.mono (by omega), q2, ⟨h3.hp, ?_, h3.hw, ?_⟩, ⟨h4.hp.trans k2.symm, h4.ht, h4.hw.same k2 k3, ?_⟩, h5, l1.mono (by omega), h7.mono (by omega), h8.trans ek.symm⟩
  · rw [e] at ht ⊢
    rw [b7]; exact (k8 ht).2.2
  · show (if x.1.taken = true then m.t0 + 1 else m.t0) = _
    rw [e]
    cases ht : (sB.hear (frOf (m.L0.getD m.o0.toNat []) 0)).1.taken with
    | true => rw [if_pos rfl, (k8 ht).1, b7]
    | false => rw [if_neg (by simp), k7 ht, b7]
  · refine c4.lo ?_ k5
    cases ht : (sB.hear (frOf (m.L0.getD m.o0.toNat []) 0)).1.taken with
    | true => rw [(k8 ht).1]; exact (k8 ht).2.1
    | false => rw [k7 ht]; exact c1
  · rw [k1]
    refine h4.ln.hi (Int.le_refl _) ?_
    cases ht : (sB.hear (frOf (m.L0.getD m.o0.toNat []) 0)).1.taken with
    | true => rw [(k8 ht).1]; omega
    | false => rw [k7 ht]; omega
theorem PInv.hand2 (h : PInv N a b m) (h0 : 0 < m.n0) : (b.hear (frOf (m.L0.getD m.o0.toNat []) 0)).1.failed = false ∧ ((b.hear (frOf (m.L0.getD m.o0.toNat []) 0)).1.taken = true → (b.hear (frOf (m.L0.getD m.o0.toNat []) 0)).1.info = infoB m.t0 ∧ PInv (N + 1) a (b.hear (frOf (m.L0.getD m.o0.toNat []) 0)).2 { m with o0 := m.o0 + 1, n0 := m.n0 - 1, t0 := m.t0 + 1 }) ∧
    ((b.hear (frOf (m.L0.getD m.o0.toNat []) 0)).1.taken = false → PInv (N + 1) a (b.hear (frOf (m.L0.getD m.o0.toNat []) 0)).2 { m with o0 := m.o0 + 1, n0 := m.n0 - 1 }) := by
  obtain ⟨h1, h2, h3⟩ := h.hand h0
  refine ⟨h1, fun ht => ⟨h2 ht, ?_⟩, fun ht => ?_⟩
  · rw [if_pos ht] at h3; exact h3
  · rw [if_neg (by rw [ht]; simp)] at h3; exact h3
theorem ASt.tick_k (a : ASt) : a.tick.2.k = a.k := by
  unfold ASt.tick
  split
  · rfl
  split
  · rfl
  simp only
  split <;> split <;> rfl
theorem PInv.tick (h : PInv N a b m) : PInv (N + 1) a.tick.2 b.tick.2 m := by
  obtain ⟨sA, sB, h1, h2, h3, h4, h5, h6, h7, h8⟩ := h
  obtain ⟨a1, a2, a3, a4, a5⟩ := tick_keep sA
  obtain ⟨b1, b2, b3, b4, b5⟩ := tick_keep sB
  exact ⟨_, _, h1.tick.2.mono (by omega), h2.tick.2.mono (by omega), ⟨h3.hp.trans a4.symm, h3.ht.trans b3.symm, h3.hw.same a4 a5, by rw [a1, a3, b2, b3]; exact h3.ln⟩, ⟨h4.hp.trans b4.symm, h4.ht.trans a3.symm, h4.hw.same b4 b5, by rw [b1, b3, a2, a3]; exact h4.ln⟩, h5, h6.mono (by omega), h7.mono (by omega), by rw [ASt.tick_k, ASt.tick_k]; exact h8⟩
theorem ASt.busy_k (a : ASt) (c : Bool) : (a.setBusy c).k = a.k := by
  unfold ASt.setBusy
  split <;> rfl
theorem PInv.busy (h : PInv N a b m) (c : Bool) : PInv (N + 1) (a.setBusy c) b m := by
  obtain ⟨sA, sB, h1, h2, h3, h4, h5, h6, h7, h8⟩ := h
  obtain ⟨a1, a2, a3, a4, a5⟩ := busy_keep sA c
  exact ⟨_, sB, (h1.setBusy c).mono (by omega), h2.mono (by omega), ⟨h3.hp.trans a4.symm, h3.ht, h3.hw.same a4 a5, by rw [a1, a3]; exact h3.ln⟩, ⟨h4.hp, h4.ht.trans a3.symm, h4.hw, by rw [a2, a3]; exact h4.ln⟩, h5, h6.mono (by omega), h7.mono (by omega), (ASt.busy_k a c).trans h8⟩
/-- What right asks. -/
structure Right (a b : ASt) (m : Mst) : Prop where
  t0 : m.t0 ≤ m.p0
  w0 : a.len ≤ 7
  o0 : a.out ≤ a.len
  b0 : m.p0 - a.len ≤ m.t0
  t1 : m.t1 ≤ m.p1
  w1 : b.len ≤ 7
  o1 : b.out ≤ b.len
  b1 : m.p1 - b.len ≤ m.t1
  bad : m.bad = false
  k0 : a.len ≤ a.k
  k1 : b.len ≤ a.k
  z0 : 0 ≤ m.p0
  z1 : 0 ≤ m.p1
  a0 : 0 ≤ a.len
  a1 : 0 ≤ b.len
theorem PInv.right (h : PInv N a b m) : Right a b m := by
  obtain ⟨sA, sB, h1, h2, h3, h4, h5, h6, h7, h8⟩ := h
  have e1 := h3.ln.ends; have e2 := h4.ln.ends
  have a1 := h1.len; have a2 := h1.out; have a3 := h1.lenk; have a4 := h1.k7; have a5 := h1.sent0; have a6 := h1.top0; have a7 := h1.len0; have a8 := h1.acked0
  have b1 := h2.len; have b2 := h2.out; have b3 := h2.lenk; have b4 := h2.k7; have b5 := h2.sent0; have b6 := h2.top0; have b7 := h2.len0; have b8 := h2.acked0
  have c1 := h3.hp; have c2 := h3.ht; have c3 := h4.hp; have c4 := h4.ht
  exact ⟨by omega, by omega, by omega, by omega, by omega, by omega, by omega, by omega, h5, by omega, by omega, by omega, by omega, by omega, by omega⟩
end
end Go.Proofs.Ytlbkficdelepeaa.Ab
