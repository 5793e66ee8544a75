import Derived.Test.YtenkabjkgngcdaaGreatKe6
set_option linter.unusedVariables false
set_option linter.unusedSimpArgs false
set_option linter.unusedSectionVars false
namespace Go.Proofs.YtenkabjkgngcdaaGreat.Ab
open Go
structure Cg (n1 room k : Int) (c : CSt) : Prop where
 n1e : c.n1 = n1
 re : c.room = room
 bre : c.br = room
 pme : c.pm = room
 tme : c.tm = room
 qre : c.c.qr = room
 ke : c.k = k
 ake : c.a.k = k
 n3 : 3 ≤ n1
 n128 : n1 ≤ 128
 r1 : 1 ≤ room
 r4096 : room ≤ 4096
structure ChI (N n1 room k : Int) (c : CSt) (s : SSt) (wr : List UInt8) (C T : Int) : Prop where
 cg : Cg n1 room k c
 lk : LkI c.c
 snd : ∃ v W, Snd N n1 room c.a s c.pn c.c.qt c.c.po c.c.pl c.c.pL c.tn c.owe v W C T ∧ W <+: wr ∧ (c.c.st ≤ 3 → W = wr ∧ v = false)
 fa : c.c.st ≤ 3 → c.a.failed = false
 nq : c.c.st ≠ 3 → c.c.qt = [] ∧ c.c.pl = 0
 tn : c.tn = (c.bh.length : Int)
 to : c.tn + c.owe ≤ room
structure SSame (s s' : SSt) : Prop where
 top : s'.top = s.top
 acked : s'.acked = s.acked
 got : s'.got = s.got
 inf : zBf s' = zBf s
theorem SSame.refl (s : SSt) : SSame s s := ⟨rfl, rfl, rfl, rfl⟩
theorem SSame.trans {a b c : SSt} (h : SSame a b) (k : SSame b c) : SSame a c := ⟨k.top.trans h.top, k.acked.trans h.acked, k.got.trans h.got, k.inf.trans h.inf⟩
theorem zSv (s : SSt) (b : Bool) : SSame s (s.setWant b) := by
 obtain ⟨h1, h2, h3, _, h5⟩ := zPV s b;exact ⟨h1, h2, h3, zDR h5⟩
theorem zS0 (s : SSt) : SSame s s.tick.2 := by
 obtain ⟨h1, h2, h3, _, h5⟩ := zPW s;exact ⟨h1, h2, h3, zDR h5⟩
section
variable {N n1 room k : Int} {c : CSt} {s : SSt} {wr : List UInt8} {C T : Int}
theorem Snd.side {M : Int} {a a' : ASt} {s' : SSt} {pn : Int} {qt : List UInt8} {po pl : Int} {pL : List (List Dat)} {tn owe : Int} {v : Bool} {W : List UInt8} (h : Snd N n1 room a s pn qt po pl pL tn owe v W C T) (hr : Rel M a' s') (e : zBf s' = zBf s) :
  Snd M n1 room a' s' pn qt po pl pL tn owe v W C T :=
 ⟨hr, h.po0, h.pl0, h.pL0, h.ql, h.pn0, h.pn1, h.ow0, h.ow1, by rw [e]; exact h.pay, by rw [e]; exact h.jn, h.jv, by rw [e]; exact h.inL, by rw [e]; exact h.inG, h.noG, by rw [e]; exact h.crd, by rw [e]; exact h.rcv⟩
theorem ChI.mono {M : Int} (h : ChI N n1 room k c s wr C T) (hM : N ≤ M) : ChI M n1 room k c s wr C T := by
 obtain ⟨v, W, h1, h2, h3⟩ := h.snd;exact ⟨h.cg, h.lk, ⟨v, W, h1.side (h1.rel.mono hM) rfl, h2, h3⟩, h.fa, h.nq, h.tn, h.to⟩
theorem ChI.side {M : Int} {a' : ASt} {s' : SSt} (h : ChI N n1 room k c s wr C T) (hr : Rel M a' s') (e : zBf s' = zBf s) (hk : a'.k = c.a.k) (hf : c.c.st ≤ 3 → a'.failed = false) : ChI M n1 room k { c with a := a' } s' wr C T := by
 obtain ⟨v, W, h1, h2, h3⟩ := h.snd;exact ⟨⟨h.cg.n1e, h.cg.re, h.cg.bre, h.cg.pme, h.cg.tme, h.cg.qre, h.cg.ke, hk.trans h.cg.ake, h.cg.n3, h.cg.n128, h.cg.r1, h.cg.r4096⟩, h.lk, ⟨v, W, h1.side hr e, h2, h3⟩, hf, h.nq, h.tn, h.to⟩
theorem ChI.rel (h : ChI N n1 room k c s wr C T) : Rel N c.a s := by
 obtain ⟨v, W, h1, _⟩ := h.snd;exact h1.rel
theorem zS4 (a : ASt) (b : Bool) : (a.setWant b).k = a.k ∧ (a.setWant b).failed = a.failed := by
 unfold ASt.setWant;split <;> exact ⟨rfl, rfl⟩
theorem ChI.want (h : ChI N n1 room k c s wr C T) : ∃ s', ChI N n1 room k c.want s' wr C T ∧ SSame s s' := by
 unfold CSt.want zA2;split
 ·rename_i h3;have hr := h.rel.want (decide ((c.c.qt.length : Int) > 0) && (c.pn == 0));obtain ⟨k1, k2⟩ := zS4 c.a (decide ((c.c.qt.length : Int) > 0) && (c.pn == 0));have hs := zSv s (decide ((c.c.qt.length : Int) > 0) && (c.pn == 0));exact ⟨_, h.side hr hs.inf k1 (fun q => k2.trans (h.fa q)), hs⟩
 ·exact ⟨s, h, SSame.refl s⟩
theorem zZb {po : Int} : zDU po 0 [] = [] := by
 unfold zDU zBE;simp
theorem ChI.core (h : ChI N n1 room k c s wr C T) {d : Core} (hl : LkI d) (hm : Mv c.c d) : ChI N n1 room k { c with c := d } s wr C T := by
 have hup := hm.up;refine ⟨⟨h.cg.n1e, h.cg.re, h.cg.bre, h.cg.pme, h.cg.tme, hm.qr.trans h.cg.qre, h.cg.ke, h.cg.ake, h.cg.n3, h.cg.n128, h.cg.r1, h.cg.r4096⟩, hl, ?_, fun q => h.fa ?_, ?_, h.tn, h.to⟩
 ·obtain ⟨v, W, h1, h2, h3⟩ := h.snd;rcases hm.q with ⟨q1, q2, q3, q4, q5, q6⟩ | ⟨q1, q2, q3, q4, q5⟩
  ·refine ⟨v, W, ?_, h2, fun q => h3 ?_⟩
   ·show Snd N n1 room c.a s c.pn d.qt d.po d.pl d.pL c.tn c.owe v W C T;rw [q1, q2, q3, q4]; exact h1
   ·have q : d.st ≤ 3 := q;omega
  ·have e : zDU d.po d.pl d.pL = [] := by rw [q3]; exact zNJ (Int.le_refl _)
   have hj := h1.jn;rw [zF6] at hj;cases hu : Ab.jn false (zBf s) with
   | none => rw [hu] at hj; cases hj
   | some u =>
    refine ⟨u, pays (zBf s), ⟨h1.rel, by show 0 ≤ d.po; omega, by show 0 ≤ d.pl; omega, by show d.po + d.pl ≤ _; rw [q2, q3]; omega, ?_, h1.pn0, h1.pn1, h1.ow0, h1.ow1, ?_, ?_, fun q => absurd q1 q, ?_, h1.inG, ?_, ?_, h1.rcv⟩, ?_, fun q => ?_⟩
    ·show (d.qt.length : Int) ≤ room;rw [q1]; have := h.cg.r1; simp; omega
    ·show pays (zBf s ++ zDU d.po d.pl d.pL) ++ d.qt = _;rw [e, q1, List.append_nil, List.append_nil]
    ·show Ab.jn false (zBf s ++ zDU d.po d.pl d.pL) = _;rw [e, List.append_nil]; exact hu
    ·show ∀ i ∈ zBf s ++ zDU d.po d.pl d.pL, _;rw [e]; exact fun i hi => h1.inL i (List.mem_append_left _ (by simpa using hi))
    ·show ∀ i ∈ zDU d.po d.pl d.pL, _;rw [e]; exact fun i hi => by cases hi
    ·show c.pn + ((pays (zDU d.po d.pl d.pL)).length : Int) + _ ≤ C;rw [e];have := h1.crd;have : ((pays ([] : List (List UInt8))).length : Int) = 0 := rfl;omega
    ·have hp := h1.pay;rw [zBr, List.append_assoc] at hp;exact List.IsPrefix.trans ⟨_, hp⟩ h2
    ·have q : d.st ≤ 3 := q;omega
 ·have q : d.st ≤ 3 := q;omega
 ·intro q;have q : d.st ≠ 3 := q;rcases hm.q with ⟨q1, q2, q3, q4, q5, q6⟩ | ⟨q1, q2, q3, q4, q5⟩
  ·obtain ⟨a, b⟩ := h.nq fun e => q (q6 e);exact ⟨q1.trans a, q3.trans b⟩
  ·exact ⟨q1, q3⟩
theorem ChI.open_ (h : ChI N n1 room k c s wr C T) : ChI N n1 room k { c with c := c.c.open_.2 } s wr C T := h.core (zWi h.lk).1 (zWi h.lk).2
theorem ChI.close (h : ChI N n1 room k c s wr C T) : ChI N n1 room k { c with c := c.c.close.2 } s wr C T := h.core (zRZ h.lk).1 (zRZ h.lk).2
theorem ChI.fail (h : ChI N n1 room k c s wr C T) : ChI N n1 room k c.fail s wr C T := h.core (zOg h.lk (.inr rfl)).1 (zOg h.lk (.inr rfl)).2
theorem xBp (s : List UInt8) (room : Int) (held : List UInt8) : zFN s room held = s.take (room - (held.length : Int)).toNat := zCZ _ _
theorem zMI (l : List UInt8) (m : Nat) : l.take (min m l.length) = l.take m := by
 rcases Nat.le_total m l.length with h | h
 ·rw [Nat.min_eq_left h]
 ·rw [Nat.min_eq_right h, List.take_length, List.take_of_length_le h]
def CSt.write (c : CSt) (d : List UInt8) : Int × CSt :=
 if c.c.st ≠ 3 then (0, c) else (((zFN d c.c.qr c.c.qt).length : Int), ({ c with c := { c.c with qt := c.c.qt ++ zFN d c.c.qr c.c.qt } } : CSt).want)
theorem ChI.write (h : ChI N n1 room k c s wr C T) (d : List UInt8) : ∃ s', ChI N n1 room k (c.write d).2 s' (wr ++ d.take (c.write d).1.toNat) C T ∧ SSame s s' ∧ 0 ≤ (c.write d).1 ∧ (c.write d).1 ≤ (d.length : Int) := by
 unfold CSt.write;split
 ·refine ⟨s, ?_, SSame.refl s, Int.le_refl _, by show (0 : Int) ≤ _; omega⟩
  show ChI N n1 room k c s (wr ++ d.take 0) C T;rw [List.take_zero, List.append_nil]; exact h
 ·rename_i h3;have h3 : c.c.st = 3 := by simpa using h3
  have ef := xBp d c.c.qr c.c.qt;have hlen : (zFN d c.c.qr c.c.qt).length ≤ d.length := by rw [ef, List.length_take]; omega
  have ht : d.take ((zFN d c.c.qr c.c.qt).length : Int).toNat = zFN d c.c.qr c.c.qt := by
   rw [Int.toNat_natCast, ef, List.length_take, zMI]
  obtain ⟨v, W, h1, h2, h4⟩ := h.snd;obtain ⟨e1, e2⟩ := h4 (by omega)
  have hq := h.cg.qre;have hql := h1.ql;have hnew : ChI N n1 room k ({ c with c := { c.c with qt := c.c.qt ++ zFN d c.c.qr c.c.qt } } : CSt) s (wr ++ zFN d c.c.qr c.c.qt) C T := by
   refine ⟨⟨h.cg.n1e, h.cg.re, h.cg.bre, h.cg.pme, h.cg.tme, h.cg.qre, h.cg.ke, h.cg.ake, h.cg.n3, h.cg.n128, h.cg.r1, h.cg.r4096⟩, ⟨h.lk.s, h.lk.tr0, h.lk.tr1, h.lk.mo1, h.lk.lf0, h.lk.lf1, h.lk.t10, h.lk.t11, h.lk.dl, h.lk.says, h.lk.asks⟩, ⟨v, W ++ zFN d c.c.qr c.c.qt, ⟨h1.rel, h1.po0, h1.pl0, h1.pL0, ?_, h1.pn0, h1.pn1, h1.ow0, h1.ow1, ?_, h1.jn, fun _ => e2, h1.inL, h1.inG, h1.noG, h1.crd, h1.rcv⟩, ?_, fun _ => ⟨by rw [e1], e2⟩⟩, h.fa, fun q => absurd h3 q, h.tn, h.to⟩
   ·show ((c.c.qt ++ zFN d c.c.qr c.c.qt).length : Int) ≤ room;rw [List.length_append, ef, List.length_take]; omega
   ·show pays (zBf s ++ zDU c.c.po c.c.pl c.c.pL) ++ (c.c.qt ++ zFN d c.c.qr c.c.qt) = _;rw [← List.append_assoc, h1.pay]
   ·rw [e1]; exact ⟨[], by simp⟩
  obtain ⟨s', q1, q2⟩ := hnew.want;refine ⟨s', ?_, q2, ?_, ?_⟩
  ·show ChI N n1 room k (CSt.want _) s' (wr ++ d.take ((zFN d c.c.qr c.c.qt).length : Int).toNat) C T;rw [ht]; exact q1
  ·show (0 : Int) ≤ ((zFN d c.c.qr c.c.qt).length : Int);omega
  ·show ((zFN d c.c.qr c.c.qt).length : Int) ≤ (d.length : Int);omega
def CSt.read (c : CSt) (most : Int) : List UInt8 × CSt :=
 let r := zLE c.bh c.tn c.owe most
 (r.1, { c with bh := r.2.1, tn := r.2.2.1, owe := r.2.2.2 })
theorem ChI.read (h : ChI N n1 room k c s wr C T) (most : Int) : ChI N n1 room k (c.read most).2 s wr C T ∧ (c.read most).1 ++ (c.read most).2.bh = c.bh := by
 obtain ⟨v, W, h1, h2, h4⟩ := h.snd;have ht := h.tn; have hto := h.to; have r1 := h.cg.r4096; have ow := h1.ow0;have eb : zBl c.bh 0 most = c.bh.take most.toNat := zCZ _ _;have hl : (zBl c.bh 0 most).length ≤ c.bh.length := by rw [eb, List.length_take]; omega
 have ed : zBl c.bh ((zBl c.bh 0 most).length : Int) (c.bh.length : Int) = c.bh.drop (zBl c.bh 0 most).length := zLs;have e1 : IntKind.i64.wrap (c.tn - ((zBl c.bh 0 most).length : Int)) = c.tn - (zBl c.bh 0 most).length := i64wrap (by omega) (by omega)
 have e2 : IntKind.i64.wrap (c.owe + ((zBl c.bh 0 most).length : Int)) = c.owe + (zBl c.bh 0 most).length := i64wrap (by omega) (by omega)
 have er : zLE c.bh c.tn c.owe most = (zBl c.bh 0 most, c.bh.drop (zBl c.bh 0 most).length, c.tn - (zBl c.bh 0 most).length, c.owe + (zBl c.bh 0 most).length) := by
  unfold zLE;rw [if_neg (by omega), ed, e1, e2]
 unfold CSt.read;rw [er];refine ⟨⟨⟨h.cg.n1e, h.cg.re, h.cg.bre, h.cg.pme, h.cg.tme, h.cg.qre, h.cg.ke, h.cg.ake, h.cg.n3, h.cg.n128, h.cg.r1, h.cg.r4096⟩, h.lk, ⟨v, W, ⟨h1.rel, h1.po0, h1.pl0, h1.pL0, h1.ql, h1.pn0, h1.pn1, ?_, ?_, h1.pay, h1.jn, h1.jv, h1.inL, h1.inG, h1.noG, h1.crd, ?_⟩, h2, h4⟩, h.fa, h.nq, ?_, ?_⟩, ?_⟩
 ·show 0 ≤ c.owe + ((zBl c.bh 0 most).length : Int);omega
 ·show c.owe + ((zBl c.bh 0 most).length : Int) ≤ room;omega
 ·show c.tn - ((zBl c.bh 0 most).length : Int) + (c.owe + ((zBl c.bh 0 most).length : Int)) + _ = T;have := h1.rcv;omega
 ·show c.tn - ((zBl c.bh 0 most).length : Int) = ((c.bh.drop (zBl c.bh 0 most).length).length : Int);rw [List.length_drop]; omega
 ·show c.tn - ((zBl c.bh 0 most).length : Int) + (c.owe + ((zBl c.bh 0 most).length : Int)) ≤ room;omega
 ·show zBl c.bh 0 most ++ c.bh.drop (zBl c.bh 0 most).length = c.bh;rw [eb, List.length_take];by_cases hm : most.toNat ≤ c.bh.length
  ·rw [Nat.min_eq_left hm, List.take_append_drop]
  ·rw [Nat.min_eq_right (by omega), List.drop_length, List.append_nil, List.take_of_length_le (by omega)]
theorem zYt (a : ASt) : a.mvT a.tick.2 = a.tick.2 := by
 unfold ASt.tick;split
 ·rfl
 split
 ·rfl
 simp only
 repeat' split
 all_goals rfl
theorem xAn (a : ASt) : a.tick.2.k = a.k := by
 unfold ASt.tick;split
 ·rfl
 split
 ·rfl
 simp only
 repeat' split
 all_goals rfl
theorem xBI (a : ASt) (h : a.failed = false) (h2 : a.tick.1.failed = false) : a.tick.2.failed = false := by
 unfold ASt.tick at h2 ⊢;split at h2
 ·rename_i q; rw [if_pos q]; exact h
 rename_i q;rw [if_neg q];split at h2
 ·rename_i q2; rw [if_pos q2]; exact h
 rename_i q2;rw [if_neg q2];simp only at h2 ⊢;generalize (if a.out > 0 ∨ a.asks = true then a.tries + 1 else a.tries) = tr at h2 ⊢
 by_cases ht : tr > a.n2
 ·rw [if_pos ht] at h2; cases h2
 ·rw [if_neg ht]; exact h
theorem ChI.tick (h : ChI N n1 room k c s wr C T) : ∃ s', ChI N n1 room k c.tick s' wr C T ∧ SSame s s' := by
 obtain ⟨t1, t2, t3⟩ := zZM h.lk;have hd := h.core t1 t2;have key : ∃ s', ChI N n1 room k c.tick1 s' wr C T ∧ SSame s s' := by
  unfold CSt.tick1;simp only;split
  ·rename_i h3;have hr := h.rel.tick.2;have hs := zS0 s;rw [zYt];split
   ·rename_i hf;obtain ⟨v, W, h1, h2, h4⟩ := hd.snd;have hl : LkI (c.c.tick.fin 6) := (zOg t1 (.inr rfl)).1;have hm : Mv c.c.tick (c.c.tick.fin 6) := (zOg t1 (.inr rfl)).2;have hx := hd.core (d := c.c.tick.fin 6) hl hm;exact ⟨_, hx.side hr hs.inf (xAn c.a) (fun q => by
     have : (6 : Int) ≤ 3 := q
     omega), hs⟩
   ·rename_i hf;refine ⟨_, hd.side hr hs.inf (xAn c.a) (fun q => xBI c.a (hd.fa q) ?_), hs⟩;cases hb : c.a.tick.1.failed with
    | true => exact absurd hb hf
    | false => rfl
  ·exact ⟨s, hd, SSame.refl s⟩
 obtain ⟨s1, q1, q2⟩ := key;obtain ⟨s2, q3, q4⟩ := q1.want;exact ⟨s2, q3, q2.trans q4⟩
end
end Go.Proofs.YtenkabjkgngcdaaGreat.Ab
