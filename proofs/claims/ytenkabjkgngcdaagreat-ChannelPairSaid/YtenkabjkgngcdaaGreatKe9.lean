import Derived.Test.YtenkabjkgngcdaaGreatKe8
set_option linter.unusedVariables false
set_option linter.unusedSimpArgs false
set_option linter.unusedSectionVars false
namespace Go.Proofs.YtenkabjkgngcdaaGreat.Ab
open Go
structure SameIm (a b : ASt) : Prop where
 vs : b.vs = a.vs
 waits : b.waits = a.waits
 busy : b.busy = a.busy
 wants : b.wants = a.wants
 k : b.k = a.k
 n2 : b.n2 = a.n2
 t1 : b.t1 = a.t1
 L : b.L = a.L
theorem SameIm.mv {a b : ASt} (h : SameIm a b) : a.mvH b = b := by
 obtain ⟨h1, h2, h3, h4, h5, h6, h7, h8⟩ := h;cases a; cases b;simp only at h1 h2 h3 h4 h5 h6 h7 h8;subst h1; subst h2; subst h3; subst h4; subst h5; subst h6; subst h7; subst h8;rfl
theorem SameIm.trans {a b c : ASt} (h : SameIm a b) (k : SameIm b c) : SameIm a c := ⟨k.vs.trans h.vs, k.waits.trans h.waits, k.busy.trans h.busy, k.wants.trans h.wants, k.k.trans h.k, k.n2.trans h.n2, k.t1.trans h.t1, k.L.trans h.L⟩
theorem SameIm.refl (a : ASt) : SameIm a a := ⟨rfl, rfl, rfl, rfl, rfl, rfl, rfl, rfl⟩
theorem xDy (a : ASt) (k : Int) : SameIm a (a.kind k) := by
 unfold ASt.kind
 repeat' (first | exact ⟨rfl, rfl, rfl, rfl, rfl, rfl, rfl, rfl⟩ | split)
theorem zPA (a : ASt) (f : Frm) : SameIm a (a.answered f) := by
 unfold ASt.answered;split <;> exact ⟨rfl, rfl, rfl, rfl, rfl, rfl, rfl, rfl⟩
theorem zWR (a : ASt) (f : Frm) : SameIm a (a.polled f) := by
 unfold ASt.polled;split <;> exact ⟨rfl, rfl, rfl, rfl, rfl, rfl, rfl, rfl⟩
theorem xDz (a : ASt) (f : Frm) : SameIm a (a.hear f).2 := by
 unfold ASt.hear;split
 ·exact SameIm.refl a
 ·simp only;split
  ·exact ⟨rfl, rfl, rfl, rfl, rfl, rfl, rfl, rfl⟩
  ·have h0 : SameIm a (a.acked (zEv a.va (zFx a.va a.high) f.nr).1) := ⟨rfl, rfl, rfl, rfl, rfl, rfl, rfl, rfl⟩;have h1 : SameIm a (((a.acked (zEv a.va (zFx a.va a.high) f.nr).1).kind f.k).answered f) := (h0.trans (xDy _ f.k)).trans (zPA _ f);generalize ((a.acked (zEv a.va (zFx a.va a.high) f.nr).1).kind f.k).answered f = b at h1 ⊢;have h2 : SameIm a (if f.k = 7 then b.take f.ns f.info else (Act.none, b)).2 := by
    split
    ·exact h1.trans ⟨rfl, rfl, rfl, rfl, rfl, rfl, rfl, rfl⟩
    ·exact h1
   have h3 := h2.trans (zWR _ f);exact h3.trans ⟨rfl, rfl, rfl, rfl, rfl, rfl, rfl, rfl⟩
abbrev tk (s r : SSt) : List (List UInt8) := (zBf s).take r.got.toNat
structure Half (N n1 room k : Int) (cA : CSt) (sA : SSt) (wA : List UInt8) (cB : CSt) (sB : SSt) (rB : List UInt8) (lA : List (List Dat)) : Prop where
 ch : ChI N n1 room k cA sA wA (room + grs (tk sB sA)) ((pays (tk sB sA)).length : Int)
 ln : LnC n1 (zBf sA) sB.got sA.top sB.acked sA.got lA
 dat : rB ++ cB.bh = pays (tk sA sB)
 jn : jn false (tk sA sB) = some cB.within
def PI (N n1 room k : Int) (cA cB : CSt) (sA sB : SSt) (wA wB rA rB : List UInt8) (lA lB : List (List Dat)) : Prop :=
 Half N n1 room k cA sA wA cB sB rB lA ∧ Half N n1 room k cB sB wB cA sA rA lB
theorem PI.swap {N n1 room k : Int} {cA cB : CSt} {sA sB : SSt} {wA wB rA rB : List UInt8} {lA lB : List (List Dat)} (h : PI N n1 room k cA cB sA sB wA wB rA rB lA lB) : PI N n1 room k cB cA sB sA wB wA rB rA lB lA := ⟨h.2, h.1⟩
section
variable {N n1 room k : Int} {cA cB : CSt} {sA sB : SSt} {wA wB rA rB : List UInt8} {lA lB : List (List Dat)}
theorem Half.mono {M : Int} (h : Half N n1 room k cA sA wA cB sB rB lA) (hM : N ≤ M) : Half M n1 room k cA sA wA cB sB rB lA := ⟨h.ch.mono hM, h.ln, h.dat, h.jn⟩
theorem PI.mono {M : Int} (h : PI N n1 room k cA cB sA sB wA wB rA rB lA lB) (hM : N ≤ M) : PI M n1 room k cA cB sA sB wA wB rA rB lA lB := ⟨h.1.mono hM, h.2.mono hM⟩
theorem zZ5 {N : Int} {a : ASt} {s : SSt} (h : Rel N a s) : ((zBf s).length : Int) = s.len := by
 unfold zBf;rw [List.length_map]; exact h.slen
theorem PI.got_le (h : PI N n1 room k cA cB sA sB wA wB rA rB lA lB) : sB.got ≤ ((zBf sA).length : Int) ∧ 0 ≤ sB.got := by
 have e := h.1.ln.ends;have r := h.1.ch.rel;have r2 := h.2.ch.rel;have := zZ5 r;have := r.len0; have := r2.got0;omega
theorem zTO {P Q : List (List UInt8)} {n : Nat} (h : n ≤ P.length) : (P ++ Q).take n = P.take n := List.take_append_of_le_length h
theorem PI.loc {M : Int} {cA' : CSt} {sA' : SSt} {wA' rA' : List UInt8} (h : PI N n1 room k cA cB sA sB wA wB rA rB lA lB) (hM : N ≤ M)
  (hc : ChI M n1 room k cA' sA' wA' (room + grs (tk sB sA)) ((pays (tk sB sA)).length : Int)) (hs : SMore sA sA') (hw : cA'.within = cA.within) (hb : rA' ++ cA'.bh = rA ++ cA.bh) :
  PI M n1 room k cA' cB sA' sB wA' wB rA' rB lA lB := by
 obtain ⟨g1, g2⟩ := h.got_le;obtain ⟨Q, hQ⟩ := hs.more;have et : tk sA' sB = tk sA sB := by
  show (zBf sA').take sB.got.toNat = _;rw [hQ]; exact zTO (by omega)
 have eu : tk sB sA' = tk sB sA := by
  show (zBf sB).take sA'.got.toNat = _;rw [hs.got]
 refine ⟨⟨by rw [eu]; exact hc, ?_, by rw [et]; exact h.1.dat, by rw [et]; exact h.1.jn⟩, ⟨?_, ?_, ?_, ?_⟩⟩
 ·rw [hQ, hs.got]; exact (h.1.ln.more Q).hi hs.top (Int.le_refl _)
 ·rw [et]; exact h.2.ch.mono hM
 ·rw [hs.got, hs.acked]; exact h.2.ln
 ·rw [eu, hb]; exact h.2.dat
 ·rw [eu, hw]; exact h.2.jn
theorem PI.open_ (h : PI N n1 room k cA cB sA sB wA wB rA rB lA lB) : PI N n1 room k { cA with c := cA.c.open_.2 } cB sA sB wA wB rA rB lA lB :=
 h.loc (Int.le_refl _) h.1.ch.open_ (SSame.refl _).more rfl rfl
theorem PI.close (h : PI N n1 room k cA cB sA sB wA wB rA rB lA lB) : PI N n1 room k { cA with c := cA.c.close.2 } cB sA sB wA wB rA rB lA lB :=
 h.loc (Int.le_refl _) h.1.ch.close (SSame.refl _).more rfl rfl
theorem zQe (c : CSt) (d : List UInt8) : (c.write d).2.within = c.within ∧ (c.write d).2.bh = c.bh := by
 unfold CSt.write;split <;> exact ⟨rfl, rfl⟩
theorem PI.write (h : PI N n1 room k cA cB sA sB wA wB rA rB lA lB) (d : List UInt8) : (∃ s', PI N n1 room k (cA.write d).2 cB s' sB (wA ++ d.take (cA.write d).1.toNat) wB rA rB lA lB) ∧ 0 ≤ (cA.write d).1 ∧ (cA.write d).1 ≤ (d.length : Int) := by
 obtain ⟨s', h1, h2, h3, h4⟩ := h.1.ch.write d;exact ⟨⟨s', h.loc (Int.le_refl _) h1 h2.more (zQe cA d).1 (by rw [(zQe cA d).2])⟩, h3, h4⟩
theorem PI.read (h : PI N n1 room k cA cB sA sB wA wB rA rB lA lB) (most : Int) : PI N n1 room k (cA.read most).2 cB sA sB wA wB (rA ++ (cA.read most).1) rB lA lB := by
 obtain ⟨h1, h2⟩ := h.1.ch.read most;refine h.loc (Int.le_refl _) h1 (SSame.refl _).more rfl ?_;rw [List.append_assoc, h2]
theorem zTL (c : CSt) : c.tick.within = c.within ∧ c.tick.bh = c.bh := by
 show c.tick1.within = c.within ∧ c.tick1.bh = c.bh;unfold CSt.tick1;simp only;split
 ·split <;> exact ⟨rfl, rfl⟩
 ·exact ⟨rfl, rfl⟩
theorem PI.tick (h : PI N n1 room k cA cB sA sB wA wB rA rB lA lB) : ∃ s', PI N n1 room k cA.tick cB s' sB wA wB rA rB lA lB := by
 obtain ⟨s', h1, h2⟩ := h.1.ch.tick;exact ⟨s', h.loc (Int.le_refl _) h1 h2.more (zTL cA).1 (by rw [(zTL cA).2])⟩
theorem zWm (c : CSt) (may : Bool) : (c.nextR may).2.2.within = c.within ∧ (c.nextR may).2.2.bh = c.bh := by
 unfold CSt.nextR
 repeat' (first | exact ⟨rfl, rfl⟩ | split)
theorem PI.next (h : PI N n1 room k cA cB sA sB wA wB rA rB lA lB) (may : Bool) : zJ3 cA may = true ∧ ∃ s', ((cA.nextR may).2.1 = true → PI (N + 8) n1 room k (cA.nextR may).2.2 cB s' sB wA wB rA rB (lA ++ [frD (cA.nextR may).1]) lB) ∧ PI (N + 8) n1 room k (cA.nextR may).2.2 cB s' sB wA wB rA rB lA lB := by
 obtain ⟨h0, s', h1, h2, h3⟩ := h.1.ch.next may;have hl := h.loc (by omega) h1 h2 (zWm cA may).1 (by rw [(zWm cA may).2])
 refine ⟨h0, s', fun ht => ⟨⟨hl.1.ch, ?_, hl.1.dat, hl.1.jn⟩, hl.2⟩, hl⟩;obtain ⟨f1, f2⟩ := h3 ht;rcases f2 with ⟨f2, f3⟩ | f2
 ·exact hl.1.ln.addK f1 f2 f3
 ·exact hl.1.ln.add (Int.le_refl _) (Int.le_refl _) f1 f2
theorem PI.lose {r : List Dat} (h : PI N n1 room k cA cB sA sB wA wB rA rB (r :: lA) lB) : PI N n1 room k cA cB sA sB wA wB rA rB lA lB := ⟨⟨h.1.ch, h.1.ln.tail, h.1.dat, h.1.jn⟩, h.2⟩
theorem zKS {room : Int} (hr : room ≤ 4096) : ∀ {P : List (List UInt8)}, (∀ i ∈ P, isG i = true → ∃ g : Int, 0 ≤ g ∧ g ≤ room ∧ i = zAN g) → 0 ≤ grs P
 | [], _ => Int.le_refl _
 | i :: l, h => by
  have a : 0 ≤ gr i := by
   unfold gr;split
   ·rename_i hg;obtain ⟨x, x0, x1, rfl⟩ := h i List.mem_cons_self hg;rw [zIp x0 (by omega)]; exact x0
   ·exact Int.le_refl _
  have b := zKS hr (P := l) fun j hj => h j (List.mem_cons_of_mem _ hj);show 0 ≤ gr i + grs l;omega
theorem zR9 {room : Int} (hr : room ≤ 4096) {P : List (List UInt8)} (h : ∀ i ∈ P, isG i = true → ∃ g : Int, 0 ≤ g ∧ g ≤ room ∧ i = zAN g) (n : Nat) : grs (P.take n) ≤ grs P := by
 have e : grs P = grs (P.take n) + grs (P.drop n) := by rw [← zES, List.take_append_drop]
 have := zKS hr (P := P.drop n) fun i hi => h i (List.mem_of_mem_drop hi);omega
theorem zNP (P : List (List UInt8)) (n : Nat) : ((pays (P.take n)).length : Int) ≤ ((pays P).length : Int) := by
 have e : pays P = pays (P.take n) ++ pays (P.drop n) := by rw [← zBr, List.take_append_drop]
 rw [e, List.length_append]; omega
theorem zL2 {P : List (List UInt8)} {n : Nat} {i : List UInt8} (h : P[n]? = some i) : P.take (n + 1) = P.take n ++ [i] := by
 rw [List.take_add_one, h];rfl
theorem zWO (i : List UInt8) : (i ≠ [] ∧ zDm i 0 = 17) ↔ isG i = true := by
 unfold isG;simp
theorem PI.bounds (h : PI N n1 room k cA cB sA sB wA wB rA rB lA lB) :
  (∀ i ∈ zBf sA, isG i = true → ∃ g : Int, 0 ≤ g ∧ g ≤ room ∧ i = zAN g) ∧ (∀ i ∈ zBf sB, isG i = true → ∃ g : Int, 0 ≤ g ∧ g ≤ room ∧ i = zAN g) ∧
  (cB.pn + ((pays (zBf sB)).length : Int) ≤ room + grs (tk sA sB)) ∧ (cA.tn + cA.owe + grs (zBf sA) = ((pays (tk sB sA)).length : Int)) ∧
  (cA.pn + ((pays (zBf sA)).length : Int) ≤ room + grs (tk sB sA)) ∧ (cB.tn + cB.owe + grs (zBf sB) = ((pays (tk sA sB)).length : Int)) ∧ 0 ≤ cA.owe ∧ 0 ≤ cA.tn ∧ 0 ≤ cA.pn := by
 obtain ⟨v, W, a, _⟩ := h.1.ch.snd;obtain ⟨v', W', b, _⟩ := h.2.ch.snd;have c1 := a.crd; have c2 := b.crd;have t := h.1.ch.tn;refine ⟨a.inG, b.inG, by omega, a.rcv, by omega, b.rcv, a.ow0, by omega, a.pn0⟩
theorem PI.hearL {r : List Dat} (h : PI N n1 room k cA cB sA sB wA wB rA rB (r :: lA) lB) (d : Core) (hl : LkI d) (hm : Mv cB.c d) : ∃ s', PI N n1 room k cA ({ cB with c := d } : CSt).want sA s' wA wB rA rB lA lB := by
 have h' := h.lose.swap;obtain ⟨s', h1, h2⟩ := (h'.1.ch.core hl hm).want;exact ⟨s', (h'.loc (Int.le_refl _) h1 h2.more rfl rfl).swap⟩
theorem PI.hearN {r : List Dat} (h : PI N n1 room k cA cB sA sB wA wB rA rB (r :: lA) lB) (h3 : cB.c.st = 3) {t q : Int} (b1 : sB.got ≤ t) (b2 : sB.acked ≤ q) (hf : FrI (zBf sA) (zC7 r 0) t q) (hln : LnC n1 (zBf sA) t sA.top q sA.got lA) :
  (∃ s', PI (N + 1) n1 room k cA (cB.num (zC7 r 0)).want sA s' wA wB rA rB lA lB) ∧ (cB.num (zC7 r 0)).c = cB.c := by
 obtain ⟨gA, gB, cr, rc, cr', rc', ow, tn0, pn0⟩ := h.bounds;obtain ⟨got1, got0⟩ := h.got_le;have hb := h.2.ch;have rel := hb.rel;have relA := h.1.ch.rel;have e1 := hln.ends;have e2 := h.2.ln.ends;have f1 := relA.acked0; have f2 := relA.sent0; have f3 := relA.top0; have f4 := relA.len0; have f5 := relA.lenk; have f6 := relA.k7;obtain ⟨q1, q2⟩ := rel.hear (zC7 r 0);obtain ⟨k1, k2, k3, k4, k5, k6, k7, k8⟩ := zPZ rel hf b1 (by omega) b2 (by omega)
 have im := xDz cB.a (zC7 r 0);have emv := im.mv;have ei := zDR k3;have hk : (cB.a.hear (zC7 r 0)).2.k = cB.a.k := im.k;have hff : (cB.a.hear (zC7 r 0)).1.failed = false := by rw [q1]; exact k6
 have hfl : cB.c.st ≤ 3 → (cB.a.hear (zC7 r 0)).2.failed = false := fun hs => by
  have h0 := hb.fa hs;have hr2 := q2.failed;rw [← hr2];have hs0 : sB.failed = false := rel.failed.trans h0;unfold SSt.hear at k6 ⊢;split
  ·exact hs0
  ·rename_i hx;rw [if_neg hx] at k6;simp only at k6 ⊢;split
   ·rename_i hy;rw [if_pos hy] at k6; cases k6
   ·have p : ∀ (u : SSt), (u.polled (zC7 r 0)).failed = u.failed := fun u => by unfold SSt.polled; split <;> rfl
    have an : ∀ (u : SSt), (u.answered (zC7 r 0)).failed = u.failed := fun u => by unfold SSt.answered; split <;> rfl
    show (SSt.polled _ (zC7 r 0)).failed = false;rw [p];split
    ·show (SSt.answered _ (zC7 r 0)).failed = false;rw [an]; exact hs0
    ·show (SSt.answered _ (zC7 r 0)).failed = false;rw [an]; exact hs0
 have side := hb.side q2 ei hk hfl;generalize hx : cB.a.hear (zC7 r 0) = x at *;generalize hy : sB.hear (zC7 r 0) = y at *;obtain ⟨xa, x⟩ := x;obtain ⟨ya, y⟩ := y;simp only at *;subst q1;have fin : ∀ (c' : CSt), cB.num (zC7 r 0) = c' → c'.c = cB.c → (∃ s', PI (N + 1) n1 room k cA c' sA s' wA wB rA rB lA lB) → (∃ s', PI (N + 1) n1 room k cA (cB.num (zC7 r 0)).want sA s' wA wB rA rB lA lB) ∧ (cB.num (zC7 r 0)).c = cB.c := fun c' e ec ⟨s', hp⟩ => by
  rw [e];obtain ⟨s2, w1, w2⟩ := hp.swap.1.ch.want;exact ⟨⟨s2, (hp.swap.loc (Int.le_refl _) w1 w2.more rfl rfl).swap⟩, ec⟩
 have lnB' : LnC n1 (zBf y) sA.got y.top sA.acked sB.got lB := by rw [ei, k1]; exact h.2.ln
 cases ht : xa.taken with
 | false =>
  have eg := k7 ht;have et : tk sA y = tk sA sB := by show (zBf sA).take y.got.toNat = _; rw [eg]
  have eu : tk y sA = tk sB sA := by show (zBf y).take _ = _; rw [ei]
  refine fin ({ cB with a := x } : CSt) ?_ rfl ⟨y, ⟨⟨by rw [eu]; exact h.1.ch.mono (by omega), ?_, by rw [et]; exact h.1.dat, by rw [et]; exact h.1.jn⟩, ⟨by rw [et]; exact side, ?_, by rw [eu]; exact h.2.dat, by rw [eu]; exact h.2.jn⟩⟩⟩
  ·unfold CSt.num CSt.numRaw;simp only [hx, ht, hff, if_true, Bool.false_eq_true, if_false, emv];show ({ cB with a := cB.a.mvH x } : CSt) = _
   rw [emv]
  ·rw [eg]; exact hln.lo b1 k5
  ·rw [eg]; exact lnB'
 | true =>
  obtain ⟨eg, b3, hP⟩ := k8 ht;have gn : y.got.toNat = sB.got.toNat + 1 := by omega
  have et : tk sA y = tk sA sB ++ [xa.info] := by
   show (zBf sA).take y.got.toNat = _;rw [gn]; exact zL2 hP
  have eu : tk y sA = tk sB sA := by show (zBf y).take _ = _; rw [ei]
  have hmem : xa.info ∈ zBf sA := List.mem_of_getElem? hP;have hAll : grs (tk sA y) ≤ grs (zBf sA) := zR9 h.1.ch.cg.r4096 gA _;have hPay : ((pays (tk sA y)).length : Int) ≤ ((pays (zBf sA)).length : Int) := zNP _ _;have hPayB : ((pays (tk sB sA)).length : Int) ≤ ((pays (zBf sB)).length : Int) := zNP _ _;have hGB : grs (tk sB sA) ≤ grs (zBf sB) := zR9 h.1.ch.cg.r4096 gB _;have r4 := h.1.ch.cg.r4096;rw [et, zES] at hAll;rw [et, zBr, zCS, List.length_append] at hPay;cases hg : isG xa.info with
  | true =>
   obtain ⟨g, g0, g1, eI⟩ := gA _ hmem hg;have eN : zHQ xa.info = g := by rw [eI]; exact zIp g0 (by omega)
   have egr : grs [xa.info] = g := by
    show gr xa.info + 0 = g;unfold gr;rw [if_pos hg, eN]; omega
   have epay : pay xa.info = [] := by unfold pay; rw [if_pos hg]
   have len3 : (xa.info.length : Int) = 3 := by rw [eI]; rfl
   obtain ⟨vb, Wb, sb, _⟩ := hb.snd;have pb0 := sb.pn0;have w1 : IntKind.i64.wrap (cB.pm - cB.pn) = room - cB.pn := by
    rw [hb.cg.pme]; exact i64wrap (by omega) (by omega)
   have hle : g ≤ room - cB.pn := by omega
   have w2 : IntKind.i64.wrap (cB.pn + g) = cB.pn + g := i64wrap (by omega) (by omega)
   refine fin ({ cB with a := x, pn := cB.pn + g } : CSt) ?_ rfl ⟨y, ⟨⟨by rw [eu]; exact h.1.ch.mono (by omega), ?_, ?_, ?_⟩, ⟨?_, ?_, by rw [eu]; exact h.2.dat, by rw [eu]; exact h.2.jn⟩⟩⟩
   ·unfold CSt.num CSt.numRaw;simp only [hx, ht, Bool.true_eq_false, if_false, if_pos ((zWO _).2 hg)];unfold CSt.granted;rw [if_pos len3, eN, if_neg (by omega)]
    show cB.mvN (if g > IntKind.i64.wrap (cB.pm - cB.pn) then _ else _) = _
    rw [w1, if_neg (by omega)]
    show ({ cB with a := cB.a.mvH (cB.a.mvH x), pn := IntKind.i64.wrap (cB.pn + g) } : CSt) = _
    rw [w2, emv, emv]
   ·rw [eg]; exact hln.lo (by omega) k5
   ·rw [et, zBr, zCS, epay, List.append_nil]; exact h.1.dat
   ·rw [et, zF6, h.1.jn];show Ab.jn cB.within [xa.info] = some cB.within;unfold Ab.jn;rw [if_pos hg]; rfl
   ·obtain ⟨v, W, a, a2, a3⟩ := side.snd;rw [et, zES, egr, zBr, zCS, epay, List.append_nil];have cg := side.cg;refine ⟨⟨cg.n1e, cg.re, cg.bre, cg.pme, cg.tme, cg.qre, cg.ke, cg.ake, cg.n3, cg.n128, cg.r1, cg.r4096⟩, side.lk, ⟨v, W, ⟨a.rel, a.po0, a.pl0, a.pL0, a.ql, ?_, ?_, a.ow0, a.ow1, a.pay, a.jn, a.jv, a.inL, a.inG, a.noG, ?_, a.rcv⟩, a2, a3⟩, side.fa, side.nq, side.tn, side.to⟩
    ·show 0 ≤ cB.pn + g;omega
    ·show cB.pn + g ≤ room;omega
    ·show cB.pn + g + ((pays (zDU cB.c.po cB.c.pl cB.c.pL)).length : Int) + ((pays (zBf y)).length : Int) ≤ room + (grs (tk sA sB) + g);have : cB.pn + ((pays (zDU cB.c.po cB.c.pl cB.c.pL)).length : Int) + ((pays (zBf y)).length : Int) ≤ room + grs (tk sA sB) := a.crd;omega
   ·rw [eg]; exact lnB'.hi (Int.le_refl _) (by omega)
  | false =>
   obtain ⟨va, Wa, sa, _⟩ := h.1.ch.snd;have hj := sa.jn;have hsplit : zBf sA = tk sA y ++ (zBf sA).drop y.got.toNat := (List.take_append_drop _ _).symm;rw [hsplit, et, List.append_assoc, List.append_assoc, zF6, h.1.jn] at hj;have hj : Ab.jn cB.within ([xa.info] ++ ((zBf sA).drop y.got.toNat ++ zDU cA.c.po cA.c.pl cA.c.pL)) = some va := hj;rw [zF6] at hj;have hpo : zEM cB.within xa.info = true ∧ Ab.jn cB.within [xa.info] = some (zPw xa.info) := by
    cases hp : zEM cB.within xa.info with
    | true =>
     refine ⟨rfl, ?_⟩;unfold Ab.jn;rw [if_neg (by rw [hg]; simp), if_pos hp]
     rfl
    | false =>
     exfalso;have : Ab.jn cB.within [xa.info] = none := by
      unfold Ab.jn;rw [if_neg (by rw [hg]; simp), if_neg (by rw [hp]; simp)]
     rw [this] at hj; cases hj
   obtain ⟨hp, hjw⟩ := hpo;unfold zEM at hp;simp only [Bool.and_eq_true, decide_eq_true_eq, Bool.not_eq_true', beq_eq_false_iff_ne] at hp;obtain ⟨p1, p2, p3⟩ := hp;have epay : pay xa.info = zC4 xa.info := by unfold pay; rw [if_neg (by rw [hg]; simp)]
   have egr : grs [xa.info] = 0 := by
    show gr xa.info + 0 = 0;unfold gr;rw [if_neg (by rw [hg]; simp)]; rfl
   rw [epay] at hPay;rw [egr] at hAll;have tb := hb.tn;obtain ⟨vb, Wb, sb, _⟩ := hb.snd;have ob0 := sb.ow0;have fit : cB.tn + cB.owe + ((zC4 xa.info).length : Int) ≤ room := by omega
   have w1 : IntKind.i64.wrap (cB.tm - cB.tn) = room - cB.tn := by rw [hb.cg.tme]; exact i64wrap (by omega) (by omega)
   have w2 : IntKind.i64.wrap (room - cB.tn - cB.owe) = room - cB.tn - cB.owe := i64wrap (by omega) (by omega)
   have w3 : IntKind.i64.wrap (cB.tn + ((zC4 xa.info).length : Int)) = cB.tn + (zC4 xa.info).length := i64wrap (by omega) (by omega)
   have efit : zFN (zC4 xa.info) cB.br cB.bh = zC4 xa.info := by
    rw [xBp, hb.cg.bre];exact List.take_of_length_le (by omega)
   refine fin ({ cB with a := x, within := zPw xa.info, tn := cB.tn + (zC4 xa.info).length, bh := cB.bh ++ zC4 xa.info } : CSt) ?_ rfl ⟨y, ⟨⟨by rw [eu]; exact h.1.ch.mono (by omega), ?_, ?_, ?_⟩, ⟨?_, ?_, by rw [eu]; exact h.2.dat, by rw [eu]; exact h.2.jn⟩⟩⟩
   ·unfold CSt.num CSt.numRaw;simp only [hx, ht, Bool.true_eq_false, if_false];rw [if_neg (fun z => by rw [(zWO _).1 z] at hg; cases hg)]
    unfold CSt.comes;rw [if_neg p1, if_neg (fun z => z p2), if_neg p3];show cB.mvN (if _ > IntKind.i64.wrap (IntKind.i64.wrap (cB.tm - cB.tn) - cB.owe) then _ else _) = _
    rw [w1, w2, if_neg (by omega)]
    show cB.mvN (if ((zFN (zC4 xa.info) cB.br cB.bh).length : Int) = (zC4 xa.info).length then _ else _) = _
    rw [efit, if_pos rfl];show ({ cB with a := cB.a.mvH (cB.a.mvH x), within := (iop .and .u8 (zDm xa.info 0) 64).asI == 0, tn := IntKind.i64.wrap (cB.tn + ((zC4 xa.info).length : Int)), bh := cB.bh ++ zC4 xa.info } : CSt) = _
    rw [w3, emv, emv];rfl
   ·rw [eg]; exact hln.lo (by omega) k5
   ·show rB ++ (cB.bh ++ zC4 xa.info) = _;rw [et, zBr, zCS, epay, ← List.append_assoc, h.1.dat]
   ·rw [et, zF6, h.1.jn]; exact hjw
   ·obtain ⟨v, W, a, a2, a3⟩ := side.snd;rw [et, zES, egr, zBr, zCS, epay, List.length_append, Int.add_zero];have cg := side.cg;refine ⟨⟨cg.n1e, cg.re, cg.bre, cg.pme, cg.tme, cg.qre, cg.ke, cg.ake, cg.n3, cg.n128, cg.r1, cg.r4096⟩, side.lk, ⟨v, W, ⟨a.rel, a.po0, a.pl0, a.pL0, a.ql, a.pn0, a.pn1, a.ow0, a.ow1, a.pay, a.jn, a.jv, a.inL, a.inG, a.noG, a.crd, ?_⟩, a2, a3⟩, side.fa, side.nq, ?_, ?_⟩
    ·show cB.tn + ((zC4 xa.info).length : Int) + cB.owe + grs (zBf y) = _;have : cB.tn + cB.owe + grs (zBf y) = ((pays (tk sA sB)).length : Int) := a.rcv;omega
    ·show cB.tn + ((zC4 xa.info).length : Int) = ((cB.bh ++ zC4 xa.info).length : Int);rw [List.length_append]; omega
    ·show cB.tn + ((zC4 xa.info).length : Int) + cB.owe ≤ room;omega
   ·rw [eg]; exact lnB'.hi (Int.le_refl _) (by omega)
theorem PI.hear {r : List Dat} (h : PI N n1 room k cA cB sA sB wA wB rA rB (r :: lA) lB) : (∃ s', PI (N + 1) n1 room k cA (cB.hear (zC7 r 0)) sA s' wA wB rA rB lA lB) ∧ ((cB.hear (zC7 r 0)).c.st = 6 → cB.c.st = 6) := by
 have hb := h.2.ch;obtain ⟨l1, l2, l3⟩ := zW7 hb.lk (zC7 r 0).k (zC7 r 0).pf (zC7 r 0).c;have lm := zWD cB.c (zC7 r 0).k (zC7 r 0).pf (zC7 r 0).c;unfold CSt.hear CSt.how;by_cases hs : cB.c.st = 3
 ·rw [if_neg (fun z => z hs)];rcases h.1.ln.2 with ⟨a1, a2, a3⟩ | ⟨t, q, a1, a2, a3, a4⟩
  ·rw [if_neg (by omega), if_pos (by omega), lm]
   obtain ⟨s', p⟩ := h.hearL _ l1 l2;exact ⟨⟨s', p.mono (by omega)⟩, l3⟩
  ·have b1 := a3.k7; have b2 := a3.k10;rw [if_pos (by omega)]
   obtain ⟨p1, p2⟩ := h.hearN hs a1 a2 a3 a4;refine ⟨p1, fun z => ?_⟩;have z : (cB.num (zC7 r 0)).c.st = 6 := z;rw [p2] at z; exact z
 ·rw [if_pos hs, lm];obtain ⟨s', p⟩ := h.hearL _ l1 l2;exact ⟨⟨s', p.mono (by omega)⟩, l3⟩
end
end Go.Proofs.YtenkabjkgngcdaaGreat.Ab
