import Derived.Test.YtenkabjkgngcdaaGreatKb8
set_option linter.unusedVariables false
set_option linter.unusedSimpArgs false
set_option linter.unusedSectionVars false
namespace Go.Proofs.YtenkabjkgngcdaaGreat.Ab
open Go
structure Rel (N : Int) (a : ASt) (s : SSt) : Prop where
 ek : s.k = a.k
 en : s.n2 = a.n2
 et : s.t1 = a.t1
 k1 : 1 ≤ a.k
 k7 : a.k ≤ 7
 n0 : 0 ≤ a.n2
 n2 : a.n2 ≤ 255
 t0 : 1 ≤ a.t1
 t2 : a.t1 ≤ 255
 va : a.va = s.acked % 8
 vr : a.vr = s.got % 8
 out : a.out = s.sent - s.acked
 high : a.high = s.top - s.acked
 len : a.len = s.len - s.acked
 failed : s.failed = a.failed
 busy : s.busy = a.busy
 rejs : s.rejs = a.rejs
 wants : s.wants = a.wants
 pb : s.pb = a.pb
 asks : s.asks = a.asks
 due : s.due = a.due
 final : s.final = a.final
 reject : s.reject = a.reject
 poll : s.poll = a.poll
 tries : s.tries = a.tries
 left : s.left = a.left
 acked0 : 0 ≤ s.acked
 sent0 : s.acked ≤ s.sent
 top0 : s.sent ≤ s.top
 len0 : s.top ≤ s.len
 lenk : s.len - s.acked ≤ a.k
 lenN : s.len ≤ N
 got0 : 0 ≤ s.got
 gotN : s.got ≤ N
 aoff : 0 ≤ a.off
 aL : a.off + a.len ≤ (a.L.length : Int)
 soff : 0 ≤ s.off
 sL : s.off + s.len ≤ (s.L.length : Int)
 W : a.W = s.W.drop s.acked.toNat
 left0 : 0 ≤ a.left
 left2 : a.left ≤ 255
 tries0 : 0 ≤ a.tries
 tries2 : a.tries ≤ a.n2 + 1
 tries3 : a.failed = false → a.tries ≤ a.n2
 fleft : a.failed = true → a.left = 0
theorem Rel.mono {N M : Int} {a : ASt} {s : SSt} (h : Rel N a s) (hM : N ≤ M) : Rel M a s := { h with lenN := by have := h.lenN; omega, gotN := by have := h.gotN; omega }
theorem xG1 {out left t1 len acked sent : Int} {pb asks wants failed again : Bool} {alen : Int} (ho : out = sent - acked) (hl : alen = len - acked) (h0 : acked ≤ sent) (hf : failed = true → left = 0) :
  xG2 t1 len acked sent pb asks failed wants left again = zOz out left pb asks wants failed t1 alen again := by
 unfold xG2 zOz;subst ho hl;by_cases hfa : failed = true
 ·rw [if_pos hfa, if_pos hfa, hf hfa]
 ·rw [if_neg hfa, if_neg hfa];by_cases hc : sent > acked ∨ asks = true ∨ wants = true ∨ (pb = true ∧ len - acked > 0)
  ·have hn : ¬ (sent - acked = 0 ∧ asks = false ∧ wants = false ∧ ¬(pb = true ∧ len - acked > 0)) := by
    rintro ⟨h1, h2, h3, h4⟩
    rcases hc with hc | hc | hc | hc
    ·omega
    ·rw [h2] at hc; cases hc
    ·rw [h3] at hc; cases hc
    ·exact h4 hc
   rw [if_pos hc, if_neg hn]
  ·have hy : sent - acked = 0 ∧ asks = false ∧ wants = false ∧ ¬(pb = true ∧ len - acked > 0) := by
    refine ⟨?_, ?_, ?_, ?_⟩
    ·by_cases h : sent > acked
     ·exact absurd (Or.inl h) hc
     ·omega
    ·cases h : asks with
     | false => rfl
     | true => exact absurd (Or.inr (Or.inl h)) hc
    ·cases h : wants with
     | false => rfl
     | true => exact absurd (Or.inr (Or.inr (Or.inl h))) hc
    ·intro h;exact hc (Or.inr (Or.inr (Or.inr h)))
   rw [if_neg hc, if_pos hy]
theorem zTs {out left t1 len : Int} {pb asks wants failed again : Bool} (h0 : 0 ≤ left) (h1 : left ≤ 255) (t0 : 1 ≤ t1) (t2 : t1 ≤ 255) : 0 ≤ zOz out left pb asks wants failed t1 len again ∧ zOz out left pb asks wants failed t1 len again ≤ 255 := by
 unfold zOz
 repeat' split <;> omega
theorem Rel.count {N : Int} {a : ASt} {s : SSt} (h : Rel N a s) (b : Bool) : Rel N (a.count b) (s.count b) := by
 have e := xG1 (t1 := a.t1) (pb := a.pb) (asks := a.asks) (wants := a.wants) (again := b) h.out h.len h.sent0 h.fleft;have r := zTs (out := a.out) (len := a.len) (pb := a.pb) (asks := a.asks) (wants := a.wants) (failed := a.failed) (again := b) h.left0 h.left2 h.t0 h.t2;refine { h with left := ?_, left0 := r.1, left2 := r.2, fleft := fun hf => ?_ }
 ·show xG2 s.t1 s.len s.acked s.sent s.pb s.asks s.failed s.wants s.left b = zOz a.out a.left a.pb a.asks a.wants a.failed a.t1 a.len b;rw [h.et, h.pb, h.asks, h.failed, h.wants, h.left];exact e
 ·show zOz a.out a.left a.pb a.asks a.wants a.failed a.t1 a.len b = 0;have hf : a.failed = true := hf;unfold zOz;rw [if_pos hf];exact h.fleft hf
theorem zXy {L : List (List Dat)} {off len : Int} (h0 : 0 ≤ off) (h1 : 0 ≤ len) (h2 : off + len ≤ (L.length : Int)) : (((L.drop off.toNat).take len.toNat).length : Int) = len := by
 rw [List.length_take, List.length_drop];omega
theorem zPQ (W : List (List Dat)) (r : List Dat) : ((W ++ [r]).drop (0 : Int).toNat).take ((W.length : Int) + 1).toNat = W ++ [r] := by
 rw [show ((W.length : Int) + 1).toNat = (W ++ [r]).length from by simp]
 show ((W ++ [r]).drop 0).take _ = _;rw [List.drop_zero, List.take_length]
theorem Rel.alen {N : Int} {a : ASt} {s : SSt} (h : Rel N a s) : (a.W.length : Int) = a.len := zXy h.aoff (by have := h.len; have := h.sent0; have := h.top0; have := h.len0; omega) h.aL
theorem Rel.slen {N : Int} {a : ASt} {s : SSt} (h : Rel N a s) : (s.W.length : Int) = s.len := zXy h.soff (by have := h.acked0; have := h.sent0; have := h.top0; have := h.len0; omega) h.sL
theorem Rel.push {N : Int} {a : ASt} {s : SSt} (h : Rel N a s) (d : Dat) : (a.push d).1 = (s.push d).1 ∧ Rel (N + 1) (a.push d).2 (s.push d).2 := by
 unfold ASt.push SSt.push;by_cases hf : a.failed = true
 ·have hs : s.failed = true := by rw [h.failed]; exact hf
  rw [if_pos hf, if_pos hs];exact ⟨rfl, h.mono (by omega)⟩
 ·have hs : ¬ s.failed = true := by rw [h.failed]; exact hf
  rw [if_neg hf, if_neg hs];have e1 := h.len;have e2 := h.ek;have e3 := h.alen;have e4 := h.slen;by_cases hk : a.len ≥ a.k
  ·have hk2 : s.len - s.acked ≥ s.k := by omega
   rw [if_pos hk, if_pos hk2];exact ⟨rfl, h.mono (by omega)⟩
  ·have hk2 : ¬ s.len - s.acked ≥ s.k := by omega
   rw [if_neg hk, if_neg hk2];refine ⟨rfl, Rel.count ?_ false⟩;have b1 := h.acked0; have b2 := h.sent0; have b3 := h.top0; have b4 := h.len0; have b5 := h.lenN; have b6 := h.gotN;refine { h with len := ?_, len0 := ?_, lenk := ?_, lenN := ?_, gotN := ?_, aoff := by simp, aL := ?_, soff := by simp, sL := ?_, W := ?_ }
   ·show (a.W.length : Int) + 1 = (s.W.length : Int) + 1 - s.acked;omega
   ·show s.top ≤ (s.W.length : Int) + 1;omega
   ·show (s.W.length : Int) + 1 - s.acked ≤ a.k;omega
   ·show (s.W.length : Int) + 1 ≤ N + 1;omega
   ·show s.got ≤ N + 1;omega
   ·show (0 : Int) + ((a.W.length : Int) + 1) ≤ ((a.W ++ [[d]]).length : Int);rw [List.length_append]; simp
   ·show (0 : Int) + ((s.W.length : Int) + 1) ≤ ((s.W ++ [[d]]).length : Int);rw [List.length_append]; simp
   ·show ((a.W ++ [[d]]).drop (0 : Int).toNat).take ((a.W.length : Int) + 1).toNat = (((s.W ++ [[d]]).drop (0 : Int).toNat).take ((s.W.length : Int) + 1).toNat).drop s.acked.toNat;rw [zPQ, zPQ, List.drop_append_of_le_length (by omega), ← h.W]
theorem Rel.want {N : Int} {a : ASt} {s : SSt} (h : Rel N a s) (b : Bool) : Rel N (a.setWant b) (s.setWant b) := by
 unfold ASt.setWant SSt.setWant;by_cases hf : a.failed = true
 ·rw [if_pos hf, if_neg (by rw [h.failed, hf]; simp)]
  exact h
 ·rw [if_neg hf, if_pos (by rw [h.failed]; simpa using hf)]
  refine Rel.count ?_ false;exact { h with wants := rfl }
theorem Rel.tick {N : Int} {a : ASt} {s : SSt} (h : Rel N a s) : a.tick.1 = s.tick.1 ∧ Rel N a.tick.2 s.tick.2 := by
 have et : (if s.sent > s.acked ∨ s.asks = true then s.tries + 1 else s.tries) = (if a.out > 0 ∨ a.asks = true then a.tries + 1 else a.tries) := by
  rw [h.asks, h.tries];have e : (s.sent > s.acked) ↔ (a.out > 0) := by have := h.out; omega
  simp only [e]
 have f1 := h.failed;have f2 := h.left;have f3 := h.left0;have f4 := h.left2;have f5 := h.tries0;have f6 := h.en;unfold ASt.tick SSt.tick;simp only [et];by_cases hc : a.failed = true ∨ a.left = 0
 ·have hs : s.failed = true ∨ s.left = 0 := by rw [f1, f2]; exact hc
  rw [if_pos hc, if_pos hs];exact ⟨rfl, h⟩
 ·have hs : ¬ (s.failed = true ∨ s.left = 0) := by rw [f1, f2]; exact hc
  rw [if_neg hc, if_neg hs];have hfa : a.failed = false := by
   cases hx : a.failed with
   | false => rfl
   | true => exact absurd (Or.inl hx) hc
  by_cases hl : a.left - 1 > 0
  ·have hl2 : s.left - 1 > 0 := by omega
   rw [if_pos hl, if_pos hl2];refine ⟨rfl, ?_⟩;exact { h with left := (by show s.left - 1 = a.left - 1; omega), left0 := (by show 0 ≤ a.left - 1; omega), left2 := (by show a.left - 1 ≤ 255; omega), fleft := (fun hx => by rw [show a.failed = true from hx] at hfa; cases hfa) }
  ·have hl2 : ¬ s.left - 1 > 0 := by omega
   rw [if_neg hl, if_neg hl2];have ht3 := h.tries3 hfa;generalize htr : (if a.out > 0 ∨ a.asks = true then a.tries + 1 else a.tries) = tr
   have hr : a.tries ≤ tr ∧ tr ≤ a.tries + 1 := by rw [← htr]; split <;> omega
   by_cases hn : tr > a.n2
   ·have hn2 : tr > s.n2 := by omega
    rw [if_pos hn, if_pos hn2];refine ⟨rfl, ?_⟩;exact { h with left := (by show s.left - 1 = 0; have : ¬ a.left = 0 := fun hx => hc (Or.inr hx); omega), left0 := Int.le_refl 0, left2 := (by show (0 : Int) ≤ 255; omega), tries := rfl, tries0 := (by show 0 ≤ tr; omega), tries2 := (by show tr ≤ a.n2 + 1; omega), tries3 := (fun hx => by cases hx), failed := rfl, fleft := (fun _ => rfl) }
   ·have hn2 : ¬ tr > s.n2 := by omega
    rw [if_neg hn, if_neg hn2];refine ⟨rfl, ?_⟩;exact { h with left := h.et, left0 := (by show 0 ≤ a.t1; have := h.t0; omega), left2 := h.t2, tries := rfl, tries0 := (by show 0 ≤ tr; omega), tries2 := (by show tr ≤ a.n2 + 1; omega), tries3 := (fun _ => by show tr ≤ a.n2; omega), asks := rfl, poll := rfl, fleft := (fun hx => by rw [show a.failed = true from hx] at hfa; cases hfa) }
theorem zMe {L : List (List Dat)} {off len i : Int} (h0 : 0 ≤ off) (h1 : 0 ≤ i) (h2 : i < len) : ((L.drop off.toNat).take len.toNat).getD i.toNat [] = L.getD (off + i).toNat [] := by
 rw [List.getD_eq_getElem?_getD, List.getD_eq_getElem?_getD, List.getElem?_take_of_lt (by omega), List.getElem?_drop]
 congr 2;omega
theorem Rel.info {N : Int} {a : ASt} {s : SSt} (h : Rel N a s) (hl : s.sent < s.len) : infoAt a.L (a.off + a.out) = infoAt s.L (s.off + s.sent) := by
 have b1 := h.acked0; have b2 := h.sent0; have b3 := h.out; have b4 := h.len;unfold infoAt;rw [← zMe (len := a.len) h.aoff (by omega) (by omega), ← zMe (len := s.len) h.soff (by omega) hl]
 show ((a.W.getD a.out.toNat []).getD 0 _).asS = ((s.W.getD s.sent.toNat []).getD 0 _).asS;rw [h.W];rw [List.getD_eq_getElem?_getD, List.getD_eq_getElem?_getD, List.getElem?_drop];rw [show s.acked.toNat + a.out.toNat = s.sent.toNat from by omega]
 simp only [List.getD_eq_getElem?_getD]
theorem Rel.next {N : Int} {a : ASt} {s : SSt} (h : Rel N a s) : a.next.1 = s.next.1 ∧ a.next.2.1 = s.next.2.1 ∧ Rel N a.next.2.2 s.next.2.2 := by
 have f1 := h.failed; have f2 := h.due; have f3 := h.poll; have f4 := h.pb; have f5 := h.asks; have f6 := h.busy; have f7 := h.reject; have f8 := h.final; have f9 := h.vr;have o1 := h.out; have o2 := h.len; have b1 := h.acked0; have b2 := h.sent0; have b3 := h.top0; have b4 := h.len0;have hh : a.has = (!a.failed && (a.due || a.poll || (!a.pb && !a.asks && decide (a.out < a.len)))) := rfl;unfold ASt.next SSt.next;by_cases hf : a.failed = true
 ·have hs : s.failed = true := by rw [f1]; exact hf
  have ha : a.has = false := by rw [hh, hf]; rfl
  rw [if_pos ha, if_pos hs];exact ⟨rfl, rfl, h⟩
 have hf0 : a.failed = false := by simpa using hf
 have hs : ¬ s.failed = true := by rw [f1]; exact hf
 rw [if_neg hs];by_cases hd : a.due = true
 ·have hd2 : s.due = true := by rw [f2]; exact hd
  have ha : ¬ a.has = false := by rw [hh, hf0, hd]; simp
  rw [if_neg ha, if_pos hd, if_pos hd2];refine ⟨?_, rfl, Rel.count ?_ false⟩
  ·show Frm.mk _ _ _ _ _ _ _ = Frm.mk _ _ _ _ _ _ _;rw [f6, f7, f8, f9];congr 1;cases a.busy <;> cases a.reject <;> simp
  ·exact { h with due := rfl, final := rfl, reject := rfl }
 have hd2 : ¬ s.due = true := by rw [f2]; exact hd
 have hd0 : a.due = false := by simpa using hd
 rw [if_neg hd2];by_cases hp : a.poll = true
 ·have hp2 : s.poll = true := by rw [f3]; exact hp
  have ha : ¬ a.has = false := by rw [hh, hf0, hp]; simp
  rw [if_neg ha, if_neg hd, if_pos hp, if_pos hp2];refine ⟨?_, rfl, Rel.count ?_ false⟩
  ·show Frm.mk _ _ _ _ _ _ _ = Frm.mk _ _ _ _ _ _ _;rw [f6, f9]
  ·exact { h with poll := rfl }
 have hp2 : ¬ s.poll = true := by rw [f3]; exact hp
 have hp0 : a.poll = false := by simpa using hp
 rw [if_neg hp2];by_cases hi : s.pb = false ∧ s.asks = false ∧ s.sent < s.len
 ·have ha : ¬ a.has = false := by
   have e : decide (a.out < a.len) = true := decide_eq_true (by omega)
   rw [hh, hf0, ← f4, ← f5, hi.1, hi.2.1, e]; simp
  rw [if_neg ha, if_neg hd, if_neg hp, if_pos hi];refine ⟨?_, rfl, Rel.count ?_ false⟩
  ·show Frm.mk _ _ _ _ _ _ _ = Frm.mk _ _ _ _ _ _ _;rw [h.info hi.2.2, f9, show zFx a.va a.out = s.sent % 8 from by unfold zFx; rw [h.va, o1]; omega]
  ·exact { h with
    out := (by show a.out + 1 = s.sent + 1 - s.acked; omega)
    high := (by show max a.high (a.out + 1) = max s.top (s.sent + 1) - s.acked; have := h.high; omega)
    sent0 := (by show s.acked ≤ s.sent + 1; omega)
    top0 := (by show s.sent + 1 ≤ max s.top (s.sent + 1); omega)
    len0 := (by show max s.top (s.sent + 1) ≤ s.len; have := hi.2.2; omega) }
 ·have ha : a.has = false := by
   rw [hh, hf0, hd0, hp0, ← f4, ← f5];cases x1 : s.pb with
   | true => simp
   | false =>
    cases x2 : s.asks with
    | true => simp
    | false =>
     have e : decide (a.out < a.len) = false := decide_eq_false (fun hx => hi ⟨x1, x2, by omega⟩)
     rw [e]; simp
  rw [if_pos ha, if_neg hi];exact ⟨rfl, rfl, h⟩
def SSt.ackd (s : SSt) (n : Int) : SSt := { s with acked := s.acked + n, sent := max s.sent (s.acked + n), tries := if n > 0 then 0 else s.tries }
theorem Rel.ackd {N : Int} {a : ASt} {s : SSt} (h : Rel N a s) {n : Int} (h0 : 0 ≤ n) (h1 : n ≤ a.high) : Rel N (a.acked n) (s.ackd n) := by
 have b1 := h.acked0; have b2 := h.sent0; have b3 := h.top0; have b4 := h.len0; have b5 := h.lenk; have o1 := h.out; have o2 := h.len; have o3 := h.high; have c1 := h.aoff; have c2 := h.aL;have t0 := h.tries0; have t2 := h.tries2; have n0 := h.n0;exact { h with
  va := (by show zFx a.va n = (s.acked + n) % 8; unfold zFx; rw [h.va]; omega)
  out := (by show max 0 (a.out - n) = max s.sent (s.acked + n) - (s.acked + n); omega)
  high := (by show a.high - n = s.top - (s.acked + n); omega)
  len := (by show a.len - n = s.len - (s.acked + n); omega)
  tries := (by show (if n > 0 then 0 else s.tries) = (if n > 0 then 0 else a.tries); rw [h.tries])
  acked0 := (by show 0 ≤ s.acked + n; omega)
  sent0 := (by show s.acked + n ≤ max s.sent (s.acked + n); omega)
  top0 := (by show max s.sent (s.acked + n) ≤ s.top; omega)
  lenk := (by show s.len - (s.acked + n) ≤ a.k; omega)
  aoff := (by show 0 ≤ a.off + n; omega)
  aL := (by show a.off + n + (a.len - n) ≤ (a.L.length : Int); omega)
  W := (by
   show (a.L.drop (a.off + n).toNat).take (a.len - n).toNat = s.W.drop (s.acked + n).toNat;rw [show (s.acked + n).toNat = s.acked.toNat + n.toNat from by omega, ← List.drop_drop, ← h.W]
   show _ = ((a.L.drop a.off.toNat).take a.len.toNat).drop n.toNat;rw [List.drop_take, List.drop_drop];congr 2 <;> omega)
  tries0 := (by show 0 ≤ (if n > 0 then 0 else a.tries); split <;> omega)
  tries2 := (by show (if n > 0 then 0 else a.tries) ≤ a.n2 + 1; split <;> omega)
  tries3 := (fun hf => by show (if n > 0 then 0 else a.tries) ≤ a.n2; have := h.tries3 hf; split <;> omega) }
theorem Rel.answered {N : Int} {a : ASt} {s : SSt} (h : Rel N a s) (f : Frm) : Rel N (a.answered f) (s.answered f) := by
 unfold ASt.answered SSt.answered;have e := h.asks;by_cases hc : f.c = false ∧ f.pf = true ∧ a.asks = true
 ·have hs : s.asks = true ∧ f.pf = true ∧ f.c = false := ⟨by rw [e]; exact hc.2.2, hc.2.1, hc.1⟩
  rw [if_pos hc, if_pos hs];exact { h with asks := rfl, poll := rfl, tries := rfl, out := (by show (0 : Int) = s.acked - s.acked; omega), sent0 := Int.le_refl _, top0 := (by show s.acked ≤ s.top; have := h.sent0; have := h.top0; omega), tries0 := Int.le_refl _, tries2 := (by show (0 : Int) ≤ a.n2 + 1; have := h.n0; omega), tries3 := (fun _ => h.n0) }
 ·have hs : ¬ (s.asks = true ∧ f.pf = true ∧ f.c = false) := fun x => hc ⟨x.2.2, x.2.1, by rw [← e]; exact x.1⟩
  rw [if_neg hc, if_neg hs];exact h
theorem Rel.polled {N : Int} {a : ASt} {s : SSt} (h : Rel N a s) (f : Frm) : Rel N (a.polled f) (s.polled f) := by
 unfold ASt.polled SSt.polled;by_cases hc : f.c = true ∧ f.pf = true
 ·have hs : f.pf = true ∧ f.c = true := ⟨hc.2, hc.1⟩;rw [if_pos hc, if_pos hs];exact { h with due := rfl, final := rfl }
 ·have hs : ¬ (f.pf = true ∧ f.c = true) := fun x => hc ⟨x.2, x.1⟩;rw [if_neg hc, if_neg hs];exact h
theorem Rel.kind {N : Int} {a : ASt} {s : SSt} (h : Rel N a s) {k : Int} (hk : k = 7 ∨ k = 8 ∨ k = 9 ∨ k = 10) : Rel N (a.kind k) (s.kind k) := by
 have b1 := h.sent0; have b2 := h.top0;rcases hk with rfl | rfl | rfl | rfl
 ·exact { h with }
 ·exact { h with pb := rfl }
 ·exact { h with pb := rfl, out := (by show (0 : Int) = s.acked - s.acked; omega), sent0 := Int.le_refl _, top0 := (by show s.acked ≤ s.top; omega) }
 ·exact { h with pb := rfl, out := (by show (0 : Int) = s.acked - s.acked; omega), sent0 := Int.le_refl _, top0 := (by show s.acked ≤ s.top; omega) }
theorem Rel.take {N : Int} {a : ASt} {s : SSt} (h : Rel N a s) (ns : Int) (info : List UInt8) (d : Int) :
  { (a.take ns info).1 with acked := d } = (s.take ns info ⟨[], false, d, false⟩).1 ∧ Rel (N + 1) (a.take ns info).2 (s.take ns info ⟨[], false, d, false⟩).2 := by
 have f1 := h.busy; have f2 := h.rejs; have f3 := h.due; have f4 := h.reject; have f5 := h.vr; have g1 := h.gotN; have g0 := h.got0; have l1 := h.lenN;have hw : (zFa a.vr ns = 0) ↔ (ns % 8 = s.got % 8) := by rw [f5]; unfold zFa; omega
 unfold ASt.take SSt.take tak xHo;by_cases hc : ns % 8 = s.got % 8
 ·have ha : zFa a.vr ns = 0 := hw.2 hc;have hn : ¬ ¬ ns % 8 = s.got % 8 := fun x => x hc;rw [if_pos ha, if_neg hn];by_cases hb : a.busy = false
  ·have hb2 : ¬ s.busy = true := by rw [f1, hb]; simp
   rw [if_pos hb, if_neg hb2];refine ⟨rfl, ?_⟩;exact { h with vr := (by show zFx a.vr 1 = (s.got + 1) % 8; unfold zFx; rw [f5]; omega), rejs := rfl, due := rfl, reject := rfl, got0 := (by show 0 ≤ s.got + 1; omega), gotN := (by show s.got + 1 ≤ N + 1; omega), lenN := (by show s.len ≤ N + 1; omega) }
  ·have hb2 : s.busy = true := by rw [f1]; simpa using hb
   rw [if_neg hb, if_pos hb2];refine ⟨rfl, ?_⟩;exact { h with due := rfl, gotN := (by show s.got ≤ N + 1; omega), lenN := (by show s.len ≤ N + 1; omega) }
 ·have ha : ¬ zFa a.vr ns = 0 := fun x => hc (hw.1 x);rw [if_neg ha, if_pos hc];by_cases hr : a.rejs = false ∧ a.busy = false
  ·have hr2 : s.rejs = false ∧ s.busy = false := by rw [f1, f2]; exact hr
   rw [if_pos hr, if_pos hr2];refine ⟨rfl, ?_⟩;exact { h with rejs := rfl, due := rfl, reject := rfl, gotN := (by show s.got ≤ N + 1; omega), lenN := (by show s.len ≤ N + 1; omega) }
  ·have hr2 : ¬ (s.rejs = false ∧ s.busy = false) := by rw [f1, f2]; exact hr
   rw [if_neg hr, if_neg hr2];refine ⟨rfl, ?_⟩;exact { h with gotN := (by show s.got ≤ N + 1; omega), lenN := (by show s.len ≤ N + 1; omega) }
theorem Rel.hear {N : Int} {a : ASt} {s : SSt} (h : Rel N a s) (f : Frm) : (a.hear f).1 = (s.hear f).1 ∧ Rel (N + 1) (a.hear f).2 (s.hear f).2 := by
 have f1 := h.failed; have o3 := h.high; have b3 := h.top0; have b2 := h.sent0; have b4 := h.len0; have b5 := h.lenk; have k7 := h.k7;unfold ASt.hear SSt.hear;by_cases hc : a.failed = true ∨ f.k < 7 ∨ f.k > 10
 ·have hs : s.failed = true ∨ (f.k ≠ 7 ∧ f.k ≠ 8 ∧ f.k ≠ 9 ∧ f.k ≠ 10) := by rw [f1]; exact hc.imp id (fun x => by omega)
  rw [if_pos hc, if_pos hs];exact ⟨rfl, h.mono (by omega)⟩
 have hs : ¬ (s.failed = true ∨ (f.k ≠ 7 ∧ f.k ≠ 8 ∧ f.k ≠ 9 ∧ f.k ≠ 10)) := by rw [f1]; exact fun x => hc (x.imp id (fun y => by omega))
 rw [if_neg hc, if_neg hs];have hk : f.k = 7 ∨ f.k = 8 ∨ f.k = 9 ∨ f.k = 10 := by
  have : ¬ (f.k < 7 ∨ f.k > 10) := fun x => hc (Or.inr x);omega
 have w0 : 0 ≤ zFa s.acked f.nr := by unfold zFa; omega
 have w1 : zFa a.va f.nr = zFa s.acked f.nr := by rw [h.va]; unfold zFa; omega
 have w2 : zFa a.va (zFx a.va a.high) = a.high := by unfold zFa zFx; omega
 have ea : zEv a.va (zFx a.va a.high) f.nr = if zFa s.acked f.nr > a.high then (0, false) else (zFa s.acked f.nr, true) := by unfold zEv; rw [w1, w2]
 have es : xEm s.acked s.top f.nr = if zFa s.acked f.nr > a.high then (0, false) else (s.acked + zFa s.acked f.nr, true) := by
  unfold xEm;by_cases x : zFa s.acked f.nr > a.high
  ·rw [if_pos x, if_neg (by omega)]
  ·rw [if_neg x, if_pos (by omega)]
 rw [ea, es];generalize hn : zFa s.acked f.nr = n at *;by_cases hx : n > a.high
 ·rw [if_pos hx, if_pos hx];refine ⟨rfl, ?_⟩;have := h.mono (M := N + 1) (by omega)
  exact { this with failed := rfl, left := rfl, left0 := Int.le_refl 0, left2 := (by show (0 : Int) ≤ 255; omega), fleft := (fun _ => rfl), tries3 := (fun x => by cases x) }
 ·rw [if_neg hx, if_neg hx];have r0 := h.ackd w0 (show n ≤ a.high by omega)
  have r1 := (r0.kind hk).answered f;have ed : s.acked + n - s.acked = n := by omega
  have eS : ((({ s with acked := s.acked + n, sent := max s.sent (s.acked + n), tries := if n > 0 then 0 else s.tries } : SSt).kind f.k).answered f) = ((s.ackd n).kind f.k).answered f := rfl
  simp only [ed, Bool.true_eq_false, if_false];by_cases h7 : f.k = 7
  ·rw [if_pos h7, if_pos h7];obtain ⟨q1, q2⟩ := r1.take f.ns f.info n;have q3 := (q2.polled f).count (decide (n > 0));refine ⟨q1, ?_⟩;have ec : ((((s.ackd n).kind f.k).answered f).take f.ns f.info ⟨[], false, n, false⟩).1.acked = n := by rw [← q1]
   show Rel (N + 1) _ (((((s.ackd n).kind f.k).answered f).take f.ns f.info ⟨[], false, n, false⟩).2.polled f |>.count (decide (((((s.ackd n).kind f.k).answered f).take f.ns f.info ⟨[], false, n, false⟩).1.acked > 0)));rw [ec];exact q3
  ·rw [if_neg h7, if_neg h7];exact ⟨rfl, ((r1.polled f).count (decide (n > 0))).mono (by omega)⟩
end Go.Proofs.YtenkabjkgngcdaaGreat.Ab
