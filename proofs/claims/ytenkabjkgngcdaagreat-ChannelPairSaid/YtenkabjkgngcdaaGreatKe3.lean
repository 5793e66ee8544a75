import Derived.Test.YtenkabjkgngcdaaGreatKe2
import Derived.Test.YtenkabjkgngcdaaGreatKc4
set_option linter.unusedVariables false
set_option linter.unusedSimpArgs false
set_option linter.unusedSectionVars false
namespace Go.Proofs.YtenkabjkgngcdaaGreat.Ab
open Go
def inf (r : List Dat) : List UInt8 := (r.getD 0 (.dI 0)).asS
def zBf (s : SSt) : List (List UInt8) := s.W.map inf
structure FrI (P : List (List UInt8)) (f : Frm) (t r : Int) : Prop where
 k7 : 7 ≤ f.k
 k10 : f.k ≤ 10
 nr : f.nr = r % 8
 i : f.k = 7 → ∃ n : Int, f.ns = n % 8 ∧ 0 ≤ n ∧ n < t ∧ t ≤ n + 7 ∧ P[n.toNat]? = some f.info
def xEF (n1 : Int) (f : Frm) : Prop := f.d = 7 ∧ (f.info.length : Int) ≤ n1
def LnC (n1 : Int) (P : List (List UInt8)) (lt ht lr hr : Int) : List (List Dat) → Prop
 | [] => lt ≤ ht ∧ lr ≤ hr
 | c :: l => xEF n1 (zC7 c 0) ∧ ((1 ≤ (zC7 c 0).k ∧ (zC7 c 0).k ≤ 4 ∧ LnC n1 P lt ht lr hr l) ∨ ∃ t r, lt ≤ t ∧ lr ≤ r ∧ FrI P (zC7 c 0) t r ∧ LnC n1 P t ht r hr l)
theorem FrI.more {P : List (List UInt8)} {f : Frm} {t r : Int} (h : FrI P f t r) (Q : List (List UInt8)) : FrI (P ++ Q) f t r := by
 refine ⟨h.k7, h.k10, h.nr, fun hk => ?_⟩;obtain ⟨n, h1, h2, h3, h4, h5⟩ := h.i hk;exact ⟨n, h1, h2, h3, h4, (List.getElem?_append_left (List.getElem?_eq_some_iff.1 h5).1).trans h5⟩
section
variable {n1 : Int} {P : List (List UInt8)}
theorem LnC.more (Q : List (List UInt8)) : ∀ {l : List (List Dat)} {lt ht lr hr : Int}, LnC n1 P lt ht lr hr l → LnC n1 (P ++ Q) lt ht lr hr l
 | [], _, _, _, _, h => h
 | _ :: _, _, _, _, _, ⟨a, .inl ⟨b, c, d⟩⟩ => ⟨a, .inl ⟨b, c, d.more Q⟩⟩
 | _ :: _, _, _, _, _, ⟨a, .inr ⟨t, r, b, c, d, e⟩⟩ => ⟨a, .inr ⟨t, r, b, c, d.more Q, e.more Q⟩⟩
theorem LnC.hi : ∀ {l : List (List Dat)} {lt ht lr hr ht' hr' : Int}, LnC n1 P lt ht lr hr l → ht ≤ ht' → hr ≤ hr' → LnC n1 P lt ht' lr hr' l
 | [], _, _, _, _, _, _, h, h1, h2 => ⟨by have := h.1; omega, by have := h.2; omega⟩
 | _ :: _, _, _, _, _, _, _, ⟨a, .inl ⟨b, c, d⟩⟩, h1, h2 => ⟨a, .inl ⟨b, c, d.hi h1 h2⟩⟩
 | _ :: _, _, _, _, _, _, _, ⟨a, .inr ⟨t, r, b, c, d, e⟩⟩, h1, h2 => ⟨a, .inr ⟨t, r, b, c, d, e.hi h1 h2⟩⟩
theorem LnC.lo : ∀ {l : List (List Dat)} {lt ht lr hr lt' lr' : Int}, LnC n1 P lt ht lr hr l → lt' ≤ lt → lr' ≤ lr → LnC n1 P lt' ht lr' hr l
 | [], _, _, _, _, _, _, h, h1, h2 => ⟨by have := h.1; omega, by have := h.2; omega⟩
 | _ :: _, _, _, _, _, _, _, ⟨a, .inl ⟨b, c, d⟩⟩, h1, h2 => ⟨a, .inl ⟨b, c, d.lo h1 h2⟩⟩
 | _ :: _, _, _, _, _, _, _, ⟨a, .inr ⟨t, r, b, c, d, e⟩⟩, h1, h2 => ⟨a, .inr ⟨t, r, by omega, by omega, d, e⟩⟩
theorem LnC.ends : ∀ {l : List (List Dat)} {lt ht lr hr : Int}, LnC n1 P lt ht lr hr l → lt ≤ ht ∧ lr ≤ hr
 | [], _, _, _, _, h => h
 | _ :: _, _, _, _, _, ⟨_, .inl ⟨_, _, d⟩⟩ => d.ends
 | _ :: _, _, _, _, _, ⟨_, .inr ⟨t, r, a, b, c, d⟩⟩ => by
  have := d.ends;omega
theorem LnC.add : ∀ {l : List (List Dat)} {lt ht lr hr ht' hr' : Int} {c : List Dat}, LnC n1 P lt ht lr hr l → ht ≤ ht' → hr ≤ hr' → xEF n1 (zC7 c 0) → FrI P (zC7 c 0) ht' hr' → LnC n1 P lt ht' lr hr' (l ++ [c])
 | [], _, _, _, _, _, _, c, h, h1, h2, f0, f => ⟨f0, .inr ⟨_, _, by have := h.1; omega, by have := h.2; omega, f, Int.le_refl _, Int.le_refl _⟩⟩
 | _ :: _, _, _, _, _, _, _, _, ⟨a, .inl ⟨b, c, d⟩⟩, h1, h2, f0, f => ⟨a, .inl ⟨b, c, d.add h1 h2 f0 f⟩⟩
 | _ :: _, _, _, _, _, _, _, _, ⟨a, .inr ⟨t, r, b, c, d, e⟩⟩, h1, h2, f0, f => ⟨a, .inr ⟨t, r, b, c, d, e.add h1 h2 f0 f⟩⟩
theorem LnC.addK : ∀ {l : List (List Dat)} {lt ht lr hr : Int} {c : List Dat}, LnC n1 P lt ht lr hr l → xEF n1 (zC7 c 0) → 1 ≤ (zC7 c 0).k → (zC7 c 0).k ≤ 4 → LnC n1 P lt ht lr hr (l ++ [c])
 | [], _, _, _, _, c, h, f0, f, g => ⟨f0, .inl ⟨f, g, h⟩⟩
 | _ :: _, _, _, _, _, _, ⟨a, .inl ⟨b, c, d⟩⟩, f0, f, g => ⟨a, .inl ⟨b, c, d.addK f0 f g⟩⟩
 | _ :: _, _, _, _, _, _, ⟨a, .inr ⟨t, r, b, c, d, e⟩⟩, f0, f, g => ⟨a, .inr ⟨t, r, b, c, d, e.addK f0 f g⟩⟩
theorem LnC.fine : ∀ {l : List (List Dat)} {lt ht lr hr : Int}, LnC n1 P lt ht lr hr l → ∀ c ∈ l, xEF n1 (zC7 c 0)
 | [], _, _, _, _, _, _, h => by cases h
 | x :: _, _, _, _, _, h, c, hc => by
  rcases List.mem_cons.1 hc with rfl | hc
  ·exact h.1
  ·rcases h.2 with ⟨_, _, d⟩ | ⟨_, _, _, _, _, d⟩
   ·exact d.fine c hc
   ·exact d.fine c hc
theorem LnC.tail {c : List Dat} {l : List (List Dat)} {lt ht lr hr : Int} (h : LnC n1 P lt ht lr hr (c :: l)) : LnC n1 P lt ht lr hr l := by
 rcases h.2 with ⟨_, _, d⟩ | ⟨_, _, a, b, _, d⟩
 ·exact d
 ·exact d.lo a b
end
theorem zJZ (s : SSt) (d : Dat) : (s.push d).2.top = s.top ∧ (s.push d).2.acked = s.acked ∧ (s.push d).2.got = s.got ∧ (s.push d).2.failed = s.failed ∧ ((s.push d).1 = 0 → (s.push d).2.len = (s.W.length : Int) + 1 ∧ (s.push d).2.W = s.W ++ [[d]]) := by
 unfold SSt.push;split
 ·exact ⟨rfl, rfl, rfl, rfl, fun h => absurd h (show ¬ (4 : Int) = 0 by omega)⟩
 ·split
  ·exact ⟨rfl, rfl, rfl, rfl, fun h => absurd h (show ¬ (3 : Int) = 0 by omega)⟩
  ·refine ⟨rfl, rfl, rfl, rfl, fun _ => ⟨rfl, ?_⟩⟩;show ((s.W ++ [[d]]).drop (0 : Int).toNat).take ((s.W.length : Int) + 1).toNat = _;exact zPQ _ _
theorem zPW (s : SSt) : s.tick.2.top = s.top ∧ s.tick.2.acked = s.acked ∧ s.tick.2.got = s.got ∧ s.tick.2.len = s.len ∧ s.tick.2.W = s.W := by
 have h : ∀ c : Prop, [Decidable c] → ∀ x y : Act × SSt, (x.2.top = s.top ∧ x.2.acked = s.acked ∧ x.2.got = s.got ∧ x.2.len = s.len ∧ x.2.W = s.W) → (y.2.top = s.top ∧ y.2.acked = s.acked ∧ y.2.got = s.got ∧ y.2.len = s.len ∧ y.2.W = s.W) → ((if c then x else y).2.top = s.top ∧ (if c then x else y).2.acked = s.acked ∧ (if c then x else y).2.got = s.got ∧ (if c then x else y).2.len = s.len ∧ (if c then x else y).2.W = s.W) := fun c _ x y h1 h2 => by
  by_cases hc : c
  ·simp only [if_pos hc]; exact h1
  ·simp only [if_neg hc]; exact h2
 exact h _ _ _ ⟨rfl, rfl, rfl, rfl, rfl⟩ (h _ _ _ ⟨rfl, rfl, rfl, rfl, rfl⟩ (h _ _ _ ⟨rfl, rfl, rfl, rfl, rfl⟩ ⟨rfl, rfl, rfl, rfl, rfl⟩))
theorem zPV (s : SSt) (b : Bool) : (s.setWant b).top = s.top ∧ (s.setWant b).acked = s.acked ∧ (s.setWant b).got = s.got ∧ (s.setWant b).len = s.len ∧ (s.setWant b).W = s.W := by
 unfold SSt.setWant;split <;> exact ⟨rfl, rfl, rfl, rfl, rfl⟩
theorem zZ6 {s : SSt} {j : Nat} (h : j < s.W.length) : (zBf s)[j]? = some (inf (s.W.getD j [])) := by
 unfold zBf;rw [List.getElem?_map, List.getD_eq_getElem?_getD, List.getElem?_eq_getElem h];rfl
theorem zPY {N : Int} {a : ASt} {s : SSt} (h : Rel N a s) : s.top ≤ s.next.2.2.top ∧ s.next.2.2.acked = s.acked ∧ s.next.2.2.got = s.got ∧ s.next.2.2.len = s.len ∧ s.next.2.2.W = s.W ∧ (s.next.2.1 = true → FrI (zBf s) s.next.1 s.next.2.2.top s.got) := by
 have b1 := h.acked0; have b2 := h.sent0; have b3 := h.top0; have b4 := h.len0; have b5 := h.lenk; have b6 := h.k7; have b7 := h.soff; have b8 := h.sL;have hl := h.slen;unfold SSt.next;split
 ·exact ⟨Int.le_refl _, rfl, rfl, rfl, rfl, fun h => by cases h⟩
 split
 ·refine ⟨Int.le_refl _, rfl, rfl, rfl, rfl, fun _ => ⟨?_, ?_, rfl, fun hk => ?_⟩⟩
  ·show 7 ≤ (if _ then (10 : Int) else if _ then 9 else 8)
   split
   ·omega
   ·split <;> omega
  ·show (if _ then (10 : Int) else if _ then 9 else 8) ≤ 10
   split
   ·omega
   ·split <;> omega
  ·exfalso;have : (if s.busy = false ∧ s.reject = true then (10 : Int) else if s.busy = true then 9 else 8) = 7 := hk
   split at this
   ·omega
   ·split at this <;> omega
 split
 ·refine ⟨Int.le_refl _, rfl, rfl, rfl, rfl, fun _ => ⟨?_, ?_, rfl, fun hk => ?_⟩⟩
  ·show 7 ≤ (if _ then (9 : Int) else 8)
   split <;> omega
  ·show (if _ then (9 : Int) else 8) ≤ 10
   split <;> omega
  ·exfalso;have : (if s.busy = true then (9 : Int) else 8) = 7 := hk
   split at this <;> omega
 split
 ·rename_i hc;refine ⟨by show s.top ≤ max s.top (s.sent + 1); omega, rfl, rfl, rfl, rfl, fun _ => ⟨by show (7 : Int) ≤ 7; omega, by show (7 : Int) ≤ 10; omega, rfl, fun _ => ⟨s.sent, rfl, by omega, by show s.sent < max s.top (s.sent + 1); omega, by show max s.top (s.sent + 1) ≤ s.sent + 7; omega, ?_⟩⟩⟩
  rw [zZ6 (by omega)]
  show _ = some (infoAt s.L (s.off + s.sent));unfold infoAt;rw [← zMe (len := s.len) b7 (by omega) hc.2.2]
  rfl
 ·exact ⟨Int.le_refl _, rfl, rfl, rfl, rfl, fun h => by cases h⟩
theorem zKb (s : SSt) (f : Frm) : (s.answered f).top = s.top ∧ (s.answered f).acked = s.acked ∧ (s.answered f).got = s.got ∧ (s.answered f).len = s.len ∧ (s.answered f).W = s.W := by
 unfold SSt.answered;split <;> exact ⟨rfl, rfl, rfl, rfl, rfl⟩
theorem zGW (s : SSt) (f : Frm) : (s.polled f).top = s.top ∧ (s.polled f).acked = s.acked ∧ (s.polled f).got = s.got ∧ (s.polled f).len = s.len ∧ (s.polled f).W = s.W := by
 unfold SSt.polled;split <;> exact ⟨rfl, rfl, rfl, rfl, rfl⟩
theorem zPX (s : SSt) (ns : Int) (info : List UInt8) (d : Int) : (s.take ns info ⟨[], false, d, false⟩).2.top = s.top ∧ (s.take ns info ⟨[], false, d, false⟩).2.acked = s.acked ∧ (s.take ns info ⟨[], false, d, false⟩).2.len = s.len ∧ (s.take ns info ⟨[], false, d, false⟩).2.W = s.W ∧
  (((s.take ns info ⟨[], false, d, false⟩).1 = ⟨[], false, d, false⟩ ∧ (s.take ns info ⟨[], false, d, false⟩).2.got = s.got) ∨ ((s.take ns info ⟨[], false, d, false⟩).1 = ⟨info, true, d, false⟩ ∧ (s.take ns info ⟨[], false, d, false⟩).2.got = s.got + 1 ∧ ns % 8 = s.got % 8)) := by
 refine ⟨rfl, rfl, rfl, rfl, ?_⟩;unfold SSt.take xHo;split
 ·split
  ·exact .inl ⟨rfl, rfl⟩
  ·exact .inl ⟨rfl, rfl⟩
 ·rename_i h;split
  ·exact .inl ⟨rfl, rfl⟩
  ·exact .inr ⟨rfl, rfl, by simpa using h⟩
theorem zPZ {N : Int} {b : ASt} {s : SSt} (h : Rel N b s) {P : List (List UInt8)} {f : Frm} {t r : Int} (hf : FrI P f t r) (ht : s.got ≤ t) (ht6 : t ≤ s.got + 7) (hr : s.acked ≤ r) (hr2 : r ≤ s.top) :
  (s.hear f).2.top = s.top ∧ (s.hear f).2.len = s.len ∧ (s.hear f).2.W = s.W ∧ s.acked ≤ (s.hear f).2.acked ∧ (s.hear f).2.acked ≤ r ∧ (s.hear f).1.failed = false ∧
  ((s.hear f).1.taken = false → (s.hear f).2.got = s.got) ∧ ((s.hear f).1.taken = true → (s.hear f).2.got = s.got + 1 ∧ s.got + 1 ≤ t ∧ P[s.got.toNat]? = some (s.hear f).1.info) := by
 have b1 := h.acked0; have b2 := h.sent0; have b3 := h.top0; have b4 := h.len0; have b5 := h.lenk; have b6 := h.k7;have c1 := hf.k7; have c2 := hf.k10; have c3 := hf.nr; have g0 := h.got0;unfold SSt.hear;split
 ·exact ⟨rfl, rfl, rfl, Int.le_refl _, hr, rfl, fun _ => rfl, fun h => by cases h⟩
 ·have ew : zFa s.acked f.nr = r - s.acked := by unfold zFa; omega
  have ea : xEm s.acked s.top f.nr = (r, true) := by
   unfold xEm;rw [ew, if_pos (by omega)]
   congr 1; omega
  simp only [ea];rw [if_neg (by simp)]
  generalize hs1 : ((({ s with acked := r, sent := max s.sent r, tries := if r - s.acked > 0 then 0 else s.tries } : SSt).kind f.k).answered f) = s1
  have k1 := zKb (({ s with acked := r, sent := max s.sent r, tries := if r - s.acked > 0 then 0 else s.tries } : SSt).kind f.k) f
  rw [hs1] at k1;obtain ⟨k11, k12, k13, k14, k15⟩ := k1;have k11 : s1.top = s.top := k11;have k12 : s1.acked = r := k12;have k13 : s1.got = s.got := k13;have k14 : s1.len = s.len := k14;have k15 : s1.W = s.W := k15;by_cases h7 : f.k = 7
  ·simp only [if_pos h7];obtain ⟨q1, q2, q3, q4, q5⟩ := zPX s1 f.ns f.info (r - s.acked);generalize hx : s1.take f.ns f.info ⟨[], false, r - s.acked, false⟩ = x at *;obtain ⟨p1, p2, p3, p4, p5⟩ := zGW x.2 f;refine ⟨(p1.trans q1).trans k11, (p4.trans q3).trans k14, (p5.trans q4).trans k15, ?_, ?_, ?_, fun ht' => ?_, fun ht' => ?_⟩
   ·show s.acked ≤ (x.2.polled f).acked;rw [p2, q2, k12]; exact hr
   ·show (x.2.polled f).acked ≤ r;rw [p2, q2, k12]; exact Int.le_refl _
   ·rcases q5 with ⟨q5, _⟩ | ⟨q5, _⟩ <;> rw [q5]
   ·rcases q5 with ⟨q5, q6⟩ | ⟨q5, _⟩
    ·show (x.2.polled f).got = s.got;rw [p3, q6, k13]
    ·rw [q5] at ht'; cases ht'
   ·rcases q5 with ⟨q5, q6⟩ | ⟨q5, q6, q7⟩
    ·rw [q5] at ht'; cases ht'
    ·obtain ⟨n, n1, n2, n3, n4, n5⟩ := hf.i h7;rw [k13] at q7;have en : n = s.got := by omega
     refine ⟨?_, by omega, ?_⟩
     ·show (x.2.polled f).got = s.got + 1;rw [p3, q6, k13]
     ·rw [q5, ← en];exact n5
  ·simp only [if_neg h7];obtain ⟨p1, p2, p3, p4, p5⟩ := zGW s1 f;refine ⟨p1.trans k11, p4.trans k14, p5.trans k15, ?_, ?_, by trivial, fun _ => p3.trans k13, fun h => by cases h⟩
   ·show s.acked ≤ (s1.polled f).acked;rw [p2, k12]; exact hr
   ·show (s1.polled f).acked ≤ r;rw [p2, k12]; exact Int.le_refl _
theorem zDR {s s' : SSt} (h : s'.W = s.W) : zBf s' = zBf s := by unfold zBf; rw [h]
end Go.Proofs.YtenkabjkgngcdaaGreat.Ab
