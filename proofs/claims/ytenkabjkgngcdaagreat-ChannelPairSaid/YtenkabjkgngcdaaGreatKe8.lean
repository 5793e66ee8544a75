import Derived.Test.YtenkabjkgngcdaaGreatKe7
set_option linter.unusedVariables false
set_option linter.unusedSimpArgs false
set_option linter.unusedSectionVars false
namespace Go.Proofs.YtenkabjkgngcdaaGreat.Ab
open Go
structure SMore (s s' : SSt) : Prop where
 top : s.top ≤ s'.top
 acked : s'.acked = s.acked
 got : s'.got = s.got
 more : ∃ Q, zBf s' = zBf s ++ Q
theorem SSame.more {s s' : SSt} (h : SSame s s') : SMore s s' := ⟨by have := h.top; omega, h.acked, h.got, [], by rw [h.inf, List.append_nil]⟩
theorem SKeep.more' {s s' : SSt} (h : SKeep s s') : SMore s s' := ⟨by have := h.top; omega, h.acked, h.got, h.more⟩
theorem SMore.trans {a b c : SSt} (h : SMore a b) (k : SMore b c) : SMore a c := by
 obtain ⟨P, hp⟩ := h.more;obtain ⟨Q, hq⟩ := k.more;exact ⟨Int.le_trans h.top k.top, k.acked.trans h.acked, k.got.trans h.got, P ++ Q, by rw [hq, hp, List.append_assoc]⟩
theorem zZj (a : ASt) : a.mvX a.next.2.2 = a.next.2.2 := by
 unfold ASt.next
 repeat' (first | rfl | split)
theorem xDh (a : ASt) : a.next.2.2.k = a.k ∧ a.next.2.2.failed = a.failed := by
 unfold ASt.next
 repeat' (first | exact ⟨rfl, rfl⟩ | split)
theorem zWq (s : SSt) : s.next.1.k ≠ 7 → s.next.1.info = [] := by
 unfold SSt.next;split
 ·exact fun _ => rfl
 split
 ·exact fun _ => rfl
 split
 ·exact fun _ => rfl
 split
 ·exact fun h => absurd rfl h
 ·exact fun _ => rfl
theorem zZl (a : ASt) (h : a.has = true) : a.next.2.1 = true := by
 unfold ASt.next;rw [if_neg (by rw [h]; simp)]
 split
 ·rfl
 split
 ·rfl
 ·rfl
section
variable {N n1 room k : Int} {c : CSt} {s : SSt} {wr : List UInt8} {C T : Int}
theorem ChI.fills (h : ChI N n1 room k c s wr C T) (may : Bool) (hf : c.a.failed = false) : c.fillOk may = true ∧ ∃ s', ChI (N + 7) n1 room k (c.fill may) s' wr C T ∧ SKeep s s' ∧ c.a.len ≤ (c.fill may).a.len ∧ (zMa c.a.len c.k c.owe c.tn c.room c.c.pl c.c.qt c.pn may = true → c.a.len < (c.fill may).a.len) := by
 obtain ⟨v, W, h1, h2, h3⟩ := h.snd;have g := h.cg;have e1 := h1.rel.len; have e2 := h1.rel.lenk; have e3 := h1.rel.k7; have e4 := h1.rel.sent0; have e5 := h1.rel.top0; have e6 := h1.rel.len0;have hst : xED (N - c.a.len + c.fst_.len) n1 room (c.fin_ may) s c.fst_ v W C T := by
  show Snd (N - c.a.len + c.a.len) n1 room c.a s c.pn c.c.qt c.c.po c.c.pl c.c.pL c.tn c.owe v W C T;rw [show N - c.a.len + c.a.len = N by omega]; exact h1
 have hmu : muF (c.fin_ may) c.fst_ < rounds := by
  unfold muF rounds;show 2 * (c.k - c.a.len).toNat + _ < 40;have := g.ke; have := g.ake;split <;> omega
 obtain ⟨r1, ⟨s', r2, r3⟩, r4, r5⟩ := zQB (M := N - c.a.len) (n1 := n1) (room := room) (i := c.fin_ may) hf (show c.k = c.a.k by rw [g.ke, g.ake]) g.n1e g.n3 g.n128 g.r4096 rounds c.fst_ s hst hmu
 have hl7 : ((c.fst_.run (c.fin_ may) rounds).1).len ≤ 7 := by
  have q1 : ((c.fin_ may).arq (c.fst_.run (c.fin_ may) rounds).1).len = s'.len - s'.acked := r2.rel.len;have q2 := r2.rel.lenk;have q3 := r2.rel.k7;have q4 : ((c.fin_ may).arq (c.fst_.run (c.fin_ may) rounds).1).len = ((c.fst_.run (c.fin_ may) rounds).1).len := rfl;omega
 refine ⟨r1, s', ⟨⟨g.n1e, g.re, g.bre, g.pme, g.tme, g.qre, g.ke, g.ake, g.n3, g.n128, g.r1, g.r4096⟩, ⟨h.lk.s, h.lk.tr0, h.lk.tr1, h.lk.mo1, h.lk.lf0, h.lk.lf1, h.lk.t10, h.lk.t11, h.lk.dl, h.lk.says, h.lk.asks⟩, ⟨v, W, r2.side (r2.rel.mono (by omega)) rfl, h2, h3⟩, h.fa, fun q => ?_, h.tn, ?_⟩, r3, r4, r5⟩
 ·
  obtain ⟨q1, q2⟩ := h.nq q;have hq : ∀ n f, f.qt = [] → f.pl = 0 → (FSt.run (c.fin_ may) n f).1.qt = [] ∧ (FSt.run (c.fin_ may) n f).1.pl = 0 := by
   intro n
   induction n with
   | zero => exact fun f a b => ⟨a, b⟩
   | succ n ih =>
    intro f a b;unfold FSt.run;have hstep : (f.step (c.fin_ may)).2.1.qt = [] ∧ (f.step (c.fin_ may)).2.1.pl = 0 := by
     unfold FSt.step;split
     ·exact ⟨a, b⟩
     split
     ·exact ⟨a, b⟩
     split
     ·rename_i hx; omega
     split
     ·exact ⟨a, b⟩
     ·simp only;unfold zAL;have : zFW f.qt f.pn (c.fin_ may).n1 ≤ 0 := by
       unfold zFW;rw [a]; simp; omega
      rw [if_pos (by omega)]
      exact ⟨a, b⟩
    split
    ·exact ih _ hstep.1 hstep.2
    ·exact hstep
  exact hq rounds c.fst_ q1 q2
 ·show c.tn + (c.fst_.run (c.fin_ may) rounds).1.owe ≤ room;have q1 := r2.rcv;have q2 := h1.rcv;have q3 := h.to;have q4 : (c.fin_ may).tn = c.tn := rfl;obtain ⟨Q, hQ⟩ := r3.more;rw [hQ, zES, q4] at q1;have q5 : 0 ≤ grs Q := by
   have hall : ∀ i ∈ Q, 0 ≤ gr i := fun i hi => by
    unfold gr;split
    ·rename_i hg;obtain ⟨x, x0, x1, rfl⟩ := r2.inG i (by rw [hQ]; exact List.mem_append_right _ hi) hg
     rw [zIp x0 (by have := g.r4096; omega)]; exact x0
    ·exact Int.le_refl _
   clear hQ q1
   induction Q with
   | nil => exact Int.le_refl _
   | cons i l ih =>
    show 0 ≤ gr i + grs l;have a := hall i List.mem_cons_self;have b := ih fun j hj => hall j (List.mem_cons_of_mem _ hj);omega
  omega
theorem ChI.fills0 (h : ChI N n1 room k c s wr C T) (may : Bool) (hf : c.a.failed = true) : c.fillOk may = true ∧ (c.fill may).a.out = c.a.out ∧ (c.fill may).a.len = c.a.len ∧ (c.fill may).a.off = c.a.off := by
 have h4 : ¬ c.c.st ≤ 3 := fun q => by rw [h.fa q] at hf; cases hf
 obtain ⟨q1, q2⟩ := h.nq (by omega)
 have hr := h.rel;have e1 := hr.len; have e2 := hr.lenk; have e3 := hr.k7; have e4 := hr.sent0; have e5 := hr.top0; have e6 := hr.len0; have e7 := hr.aoff; have e8 := hr.aL;have hp : ∀ (f : FSt) (d : Dat), FSt.push (c.fin_ may) f d = f := fun f d => by
  unfold FSt.push;have : ((c.fin_ may).arq f).push d = (4, (c.fin_ may).arq f) := by
   unfold ASt.push;rw [show ((c.fin_ may).arq f).failed = true from hf, if_pos rfl]
  rw [this];rfl
 have quiet : ∀ f : FSt, f.qt = [] → f.pl = 0 → zDu f.owe c.tn c.room = false → (f.step (c.fin_ may)).1 = false ∧ (f.step (c.fin_ may)).2.1.len = f.len ∧ (f.step (c.fin_ may)).2.1.off = f.off ∧ (f.step (c.fin_ may)).2.2 = true := fun f a b ho => by
  unfold FSt.step;split
  ·exact ⟨rfl, rfl, rfl, rfl⟩
  split
  ·rename_i hx;have : zDu f.owe c.tn c.room = true := hx;rw [ho] at this; cases this
  split
  ·rename_i hx; omega
  split
  ·exact ⟨rfl, rfl, rfl, rfl⟩
  ·simp only;have hc : zFW f.qt f.pn (c.fin_ may).n1 ≤ 0 := by
    unfold zFW;rw [a]; simp; omega
   unfold zAL;rw [if_pos (by omega)]
   refine ⟨rfl, trivial, trivial, decide_eq_true ⟨?_, ?_, ?_⟩⟩
   ·have := h.cg.n1e; have := h.cg.n3;show 2 ≤ c.n1;omega
   ·have := h.cg.n1e; have := h.cg.n128;show c.n1 ≤ 128;omega
   ·rw [a]; simp
 have okp : zDj c.fst_ = true := decide_eq_true ⟨by show 0 ≤ c.a.len; omega, by show c.a.len < 1000; omega, e8, e7⟩
 have hrun : ∀ n f, (f.step (c.fin_ may)).1 = false → FSt.run (c.fin_ may) (n + 1) f = ((f.step (c.fin_ may)).2.1, (f.step (c.fin_ may)).2.2) := fun n f hx => by
  unfold FSt.run;rw [if_neg (by rw [hx]; simp)]
 have key : (c.fst_.run (c.fin_ may) rounds).2 = true ∧ (c.fst_.run (c.fin_ may) rounds).1.len = c.a.len ∧ (c.fst_.run (c.fin_ may) rounds).1.off = c.a.off := by
  by_cases hl : c.fst_.len < (c.fin_ may).k
  ·cases ho : zDu c.fst_.owe c.tn c.room with
   | false =>
    obtain ⟨x1, x2, x3, x4⟩ := quiet c.fst_ q1 q2 ho;rw [show rounds = 39 + 1 from rfl, hrun _ _ x1]
    exact ⟨x4, x2, x3⟩
   | true =>
    have hs := zCW (i := c.fin_ may) (f := c.fst_) hl ho;rw [hp] at hs;have hq := quiet ({ c.fst_ with owe := 0 } : FSt) q1 q2 (by unfold zDu; simp)
    obtain ⟨x1, x2, x3, x4⟩ := hq;rw [show rounds = 38 + 1 + 1 from rfl]
    unfold FSt.run;rw [hs, if_pos rfl];rw [hrun _ _ x1];exact ⟨by show (zDj c.fst_ && _) = true; rw [okp, x4]; rfl, x2, x3⟩
  ·have hs := zGb (i := c.fin_ may) (f := c.fst_) hl;rw [show rounds = 39 + 1 from rfl, hrun _ _ (by rw [hs])]
   rw [hs];refine ⟨rfl, ?_, ?_⟩
   ·show c.fst_.len = c.a.len;rfl
   ·show c.fst_.off = c.a.off;rfl
 exact ⟨key.1, rfl, key.2.1, key.2.2⟩
theorem zZq {a : ASt} {x : Int} (h1 : a.failed = false) (h2 : a.pb = false) (h3 : a.asks = false) (ho : a.out < a.len) : a.has = true := by
 unfold ASt.has hasB;rw [h1, h2, h3, decide_eq_true ho];simp
theorem ChI.next (h : ChI N n1 room k c s wr C T) (may : Bool) : zJ3 c may = true ∧ ∃ s', ChI (N + 8) n1 room k (c.nextR may).2.2 s' wr C T ∧ SMore s s' ∧
  ((c.nextR may).2.1 = true → xEF n1 (c.nextR may).1 ∧ ((1 ≤ (c.nextR may).1.k ∧ (c.nextR may).1.k ≤ 4) ∨ FrI (zBf s') (c.nextR may).1 s'.top s'.got)) := by
 have hr := h.rel;have e0 := hr.out; have e1 := hr.len; have e2 := hr.lenk; have e3 := hr.k7; have e4 := hr.sent0; have e5 := hr.top0; have e6 := hr.len0; have e7 := hr.aoff; have e8 := hr.aL;have g := h.cg;have okn : zJ3 c may = true := by
  unfold zJ3;cases hf : c.a.failed with
  | true =>
   obtain ⟨x1, x2, x3, x4⟩ := h.fills0 may hf;rw [x1, x2, x3, x4];exact decide_eq_true ⟨by omega, by omega, by omega, by omega⟩
  | false =>
   obtain ⟨x1, s', x2, x3, x4⟩ := h.fills may hf;have y := x2.rel;have y0 := y.out; have y1 := y.len; have y2 := y.lenk; have y3 := y.k7; have y4 := y.sent0; have y5 := y.top0; have y6 := y.len0; have y7 := y.aoff;rw [x1];exact decide_eq_true ⟨by omega, by omega, by omega, by omega⟩
 refine ⟨okn, ?_⟩;cases hh : c.has may with
 | false =>
  have e : c.nextR may = (Frm.none, false, c) := by unfold CSt.nextR; rw [if_pos hh]
  rw [e];exact ⟨s, h.mono (by omega), (SSame.refl s).more, fun q => by cases q⟩
 | true =>
  have frame : ∀ f : Frm, zHB f → f.k ≠ 0 → xEF n1 f ∧ ((1 ≤ f.k ∧ f.k ≤ 4) ∨ False) := fun f hl hk => by
   rcases hl with hl | ⟨l1, l2, l3, l4⟩
   ·exact absurd hl hk
   ·refine ⟨⟨l3, ?_⟩, .inl ⟨l1, l2⟩⟩;rw [l4]; have := g.n3; simp; omega
  by_cases hy : c.c.says.k = 0
  ·by_cases hk : c.c.asks.k = 0
   ·
    have h3 : c.c.st = 3 := by
     by_cases q : c.c.st = 3
     ·exact q
     ·unfold CSt.has at hh;rw [if_neg (fun z => z hy), if_neg (fun z => z hk), if_pos q] at hh;cases hh
    have hf := h.fa (by omega)
    obtain ⟨x1, s1, x2, x3, x4, x5⟩ := h.fills may hf;have y := x2.rel;obtain ⟨z1, z2, z3⟩ := y.next;obtain ⟨w1, w2, w3, w4, w5, w6⟩ := zPY y;obtain ⟨k1, k2⟩ := xDh (c.fill may).a;have hx := x2.side z3 (zDR w5) k1 (fun q => k2.trans (x2.fa q));obtain ⟨s2, v1, v2⟩ := hx.want;have e : c.nextR may = ({ (c.fill may).a.next.1 with d := c.c.dlci }, true, ({ c.fill may with a := (c.fill may).a.mvX (c.fill may).a.next.2.2 } : CSt).want) := by
     unfold CSt.nextR;rw [if_neg (by rw [hh]; simp), if_neg (fun z => z hy), if_neg (fun z => z hk)]
    have hsm : SMore s1 s1.next.2.2 := ⟨w1, w2, w3, [], by rw [zDR w5, List.append_nil]⟩
    have hn : (c.fill may).a.next.2.1 = true := by
     refine zZl _ ?_;have hold : c.a.has = true ∨ (zMa c.a.len c.k c.owe c.tn c.room c.c.pl c.c.qt c.pn may = true ∧ c.a.pb = false ∧ c.a.asks = false) := by
      unfold CSt.has at hh;rw [if_neg (fun z => z hy), if_neg (fun z => z hk), if_neg (fun z => z h3)] at hh;rcases Bool.or_eq_true_iff.1 hh with q | q
      ·exact .inl q
      ·right;simp only [Bool.and_eq_true, Bool.not_eq_true'] at q;exact ⟨q.1.1, q.1.2, q.2⟩
     rcases hold with q | ⟨q1, q2, q3⟩
     ·unfold ASt.has hasB at q ⊢;have o1 : (c.fill may).a.out = c.a.out := rfl;have o2 : (c.fill may).a.pb = c.a.pb := rfl;have o3 : (c.fill may).a.asks = c.a.asks := rfl;have o4 : (c.fill may).a.failed = c.a.failed := rfl;have o5 : (c.fill may).a.due = c.a.due := rfl;have o6 : (c.fill may).a.poll = c.a.poll := rfl;rw [o1, o2, o3, o4, o5, o6];simp only [Bool.and_eq_true, Bool.or_eq_true, decide_eq_true_eq, Bool.not_eq_true'] at q ⊢;refine ⟨q.1, q.2.imp id fun z => ⟨z.1, by omega⟩⟩
     ·have := x5 q1;exact zZq (x := 0) hf q2 q3 (by
       show c.a.out < _
       omega)
    rw [e];refine ⟨s2, ?_, (x3.more'.trans hsm).trans v2.more, fun _ => ?_⟩
    ·have e9 : ({ c.fill may with a := (c.fill may).a.mvX (c.fill may).a.next.2.2 } : CSt) = { c.fill may with a := (c.fill may).a.next.2.2 } := by rw [zZj]
     show ChI (N + 8) n1 room k (CSt.want _) s2 wr C T;rw [e9]; exact v1.mono (by omega)
    ·have hfr := w6 (z2 ▸ hn);have hi2 : zBf s2 = zBf s1 := v2.inf.trans (zDR w5);have ht2 : s2.top = s1.next.2.2.top := v2.top;have hg2 : s2.got = s1.got := v2.got.trans w3;rw [← z1] at hfr;have hlen : (((c.fill may).a.next.1.info).length : Int) ≤ n1 := by
      by_cases q7 : (c.fill may).a.next.1.k = 7
      ·obtain ⟨n, _, _, _, _, hP⟩ := hfr.i q7;obtain ⟨v, W, u1, _⟩ := x2.snd;exact u1.inL _ (List.mem_append_left _ (List.mem_of_getElem? hP))
      ·have : (c.fill may).a.next.1.info = [] := by
        rw [z1] at q7 ⊢;exact zWq s1 q7
       rw [this]; have := g.n3; simp; omega
     refine ⟨⟨h.lk.dl, hlen⟩, .inr ?_⟩;rw [hi2, ht2, hg2];exact ⟨hfr.k7, hfr.k10, hfr.nr, hfr.i⟩
   ·have e : c.nextR may = (c.c.asks, true, ({ c with c := { c.c with asks := Frm.none } } : CSt).want) := by
     unfold CSt.nextR; rw [if_neg (by rw [hh]; simp), if_neg (fun z => z hy), if_pos hk]
    have hx := h.core (d := { c.c with asks := Frm.none }) ⟨h.lk.s, h.lk.tr0, h.lk.tr1, h.lk.mo1, h.lk.lf0, h.lk.lf1, h.lk.t10, h.lk.t11, h.lk.dl, h.lk.says, .inl rfl⟩ ⟨.inl ⟨rfl, rfl, rfl, rfl, rfl, fun q => q⟩, fun q => q, rfl⟩
    obtain ⟨s2, v1, v2⟩ := hx.want;rw [e];exact ⟨s2, v1.mono (by omega), v2.more, fun _ => ⟨(frame _ h.lk.asks hk).1, (frame _ h.lk.asks hk).2.imp id False.elim⟩⟩
  ·have e : c.nextR may = (c.c.says, true, ({ c with c := { c.c with says := Frm.none } } : CSt).want) := by
    unfold CSt.nextR; rw [if_neg (by rw [hh]; simp), if_pos hy]
   have hx := h.core (d := { c.c with says := Frm.none }) ⟨h.lk.s, h.lk.tr0, h.lk.tr1, h.lk.mo1, h.lk.lf0, h.lk.lf1, h.lk.t10, h.lk.t11, h.lk.dl, .inl rfl, h.lk.asks⟩ ⟨.inl ⟨rfl, rfl, rfl, rfl, rfl, fun q => q⟩, fun q => q, rfl⟩
   obtain ⟨s2, v1, v2⟩ := hx.want;rw [e];exact ⟨s2, v1.mono (by omega), v2.more, fun _ => ⟨(frame _ h.lk.says hy).1, (frame _ h.lk.says hy).2.imp id False.elim⟩⟩
end
end Go.Proofs.YtenkabjkgngcdaaGreat.Ab
