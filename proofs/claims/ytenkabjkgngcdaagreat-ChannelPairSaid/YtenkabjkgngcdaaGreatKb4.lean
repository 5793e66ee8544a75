import Derived.Test.YtenkabjkgngcdaaGreatKb3
set_option linter.unusedVariables false
set_option linter.unusedSimpArgs false
set_option linter.unusedSectionVars false
namespace Go.Proofs.YtenkabjkgngcdaaGreat.Ab
open Go Go.Proofs.YtenkabjkgngcdaaGreat Go.RowKit
noncomputable section
theorem zMw [ρ : Rho] {μ : Mu} {H : Heap} {w w' : World} (r : Rep μ H.get w) (d : Dom μ H.next) (p : RowKit.Below w.heap.size w w') (o : AObj) (l : Loc)
  (hb : w.heap.size ≤ l.b) (ho : ∀ μ', Ext μ μ' → μ' H.next = some l → RepO μ' H.next w' o) :
  Evo μ H.get H.next w (setMu μ H.next l) (H.new o).get (H.new o).next w' := by
 have hd := d H.next (Nat.le_refl _);have he : Ext μ (setMu μ H.next l) := Ext.set hd;have hne : ∀ {id o}, H.get id = some o → id ≠ H.next := fun h => Nat.ne_of_lt (r.lt d h);refine ⟨he, ⟨fun id o h => ?_, fun i j oi oj li lj h1 h2 hij ho h3 h4 z1 z2 => ?_⟩, Nat.le_succ _, fun id h => ?_, fun id m h1 h2 => ?_, fun b h _ => p.block b h, fun b m h => ?_, fun id o h => ?_, p.size, p.os, p.tape, p.output⟩
 ·rw [zBi] at h;split at h
  ·rename_i hid;cases h; subst hid;exact ho _ he (by simp [setMu])
  ·refine (r.obj id o h).keep he fun m hm hz => ?_;obtain ⟨m', hm', hlt⟩ := (r.obj id o h).mu;rw [hm] at hm'; cases hm';exact p.block _ (hlt hz)
 ·rw [zBi] at h1 h2;have hb' : ∀ {k ok lk}, H.get k = some ok → setMu μ H.next l k = some lk → lk.nil = false → lk.b < w.heap.size := fun {k ok lk} h h' hz => by
   obtain ⟨m', hm', hlt⟩ := (r.obj k ok h).mu;simp [setMu, hne h] at h';rw [h'] at hm'; cases hm'; exact hlt hz
  split at h1
  ·rename_i hi;rw [if_neg (by omega)] at h2
   have h5 := hb' h2 h4 z2;simp [setMu, hi] at h3; subst h3; omega
  ·split at h2
   ·rename_i hj;have h5 := hb' h1 h3 z1;simp [setMu, hj] at h4; subst h4; omega
   ·simp [setMu, hne h1] at h3;simp [setMu, hne h2] at h4;exact r.inj i j oi oj li lj h1 h2 hij ho h3 h4 z1 z2
 ·have : H.next < id := h;simp [setMu, Nat.ne_of_gt this];exact d id (by omega)
 ·unfold setMu at h1;split at h1
  ·rename_i hid; cases h1; exact ⟨by omega, .inr (.inl (by omega))⟩
  ·rw [h2] at h1; cases h1
 ·obtain ⟨j, o, m, h1, h2, ⟨h3, hz⟩, h4⟩ := m;rw [zBi] at h1;split at h1
  ·rename_i hj;simp [setMu, hj] at h3; subst h3; omega
  ·simp [setMu, hne h1] at h3;exact ⟨j, o, m, h1, h2, ⟨h3, hz⟩, h4⟩
 ·rw [zBi] at h;split at h
  ·exact .inr (by omega)
  ·exact .inl ⟨o, h⟩
structure QTm where
 r : Nat
 f : Tm
 rm : Tm
 t : Tm
 lf : Bool
def qOf (H : Heap) (id : Nat) : Option QTm := match H.get id with
 | some (.row [.sslice r 1 o R, F, N] true lf) => match H.get r, zTi F, zTi N with
  | some (.abs 2 (.pair f (.pair rm t))), some f', some n' => bif o.eqv (.ci 0) && (f'.eqv f && (R.eqv rm && (n'.eqv (zCP t) && !(Nat.beq r id)))) then some ⟨r, f, rm, t, lf⟩ else none
  | _, _, _ => none
 | _ => none
def xEu (H : Heap) (id : Nat) (q : QTm) (f t : Tm) : Heap := (H.upd q.r (.abs 2 (.pair f (.pair q.rm t)))).upd id (.row [.sslice q.r 1 (.ci 0) q.rm, mkI .i64 f, mkI .i64 (zCP t)] true q.lf)
theorem zQG {H : Heap} {id : Nat} {q : QTm} (h : qOf H id = some q) : ∃ o R F N f' n', H.get id = some (.row [.sslice q.r 1 o R, F, N] true q.lf) ∧ H.get q.r = some (.abs 2 (.pair q.f (.pair q.rm q.t))) ∧ zTi F = some f' ∧ zTi N = some n' ∧ o = .ci 0 ∧ f' = q.f ∧ R = q.rm ∧ n' = zCP q.t ∧ q.r ≠ id := by
 unfold qOf at h;split at h
 ·rename_i r o R F N lf hg;split at h
  ·rename_i f rm t f' n' h1 h2 h3;cases hc : (o.eqv (.ci 0) && (f'.eqv f && (R.eqv rm && (n'.eqv (zCP t) && !(Nat.beq r id))))) with
   | false => rw [hc] at h; cases h
   | true =>
    rw [hc] at h; cases h;simp only [Bool.and_eq_true, Bool.not_eq_true'] at hc;obtain ⟨k1, k2, k3, k4, k5⟩ := hc;exact ⟨o, R, F, N, f', n', hg, h1, h2, h3, @Tm.eqv_eq zOM _ _ k1, @Tm.eqv_eq zOM _ _ k2, @Tm.eqv_eq zOM _ _ k3, @Tm.eqv_eq zOM _ _ k4, fun e => by have e : r = id := e; subst e; simp at k5⟩
  ·cases h
 ·cases h
section
variable [ρ : Rho]
theorem zUy {μ : Mu} {H : Heap} {w : World} (r : Rep μ H.get w) {id : Nat} {q : QTm} (hq : qOf H id = some q) {l : Loc} (hl : μ id = some l) :
  l.nil = false ∧ ∃ (lr : Loc) (room fr : Nat) (t : List UInt8) (cq : List Value) (eq : TypeId) (lq hq : Nat) (c : List Value) (e : TypeId) (lo hi : Nat),
   μ q.r = some lr ∧ lr.nil = false ∧ lr.s = 0 ∧ lr.k = 1 ∧ lr.ext = room ∧ lr.cap = room ∧ q.f.den.asI = fr ∧ q.rm.den.asI = room ∧ q.t.den.asS = t ∧ QB w w l.b cq eq lq hq lr.b c e lo hi ∧ QC cq l.s lr.b room fr t.length ∧ RingQ c room fr t ∧
   3 = l.ext ∧ l.ext ≤ l.cap * l.k ∧ l.s + l.cap * l.k ≤ cq.length := by
 obtain ⟨o, R, F, N, f', n', hg, hr, hF, hN, rfl, rfl, rfl, rfl, hne⟩ := zQG hq;obtain ⟨l', c', eq, lq, hq', ⟨h1, hz⟩, h2, h3, h4, h5, h6, h7⟩ := r.obj id _ hg;rw [hl] at h1; cases h1;obtain ⟨lr, cb, e, lo, hi, ⟨k1, kz⟩, k2, k3, k4, k5, k6, room, fr, t, x, y, z, hd, d1, d2, d3, k7, k8, k9, k10, k11, k12, k13, k14⟩ := r.obj q.r _ hr;have hd : Dat.dP q.f.den (Dat.dP q.rm.den q.t.den) = _ := hd;injection hd with e1 e2
 injection e2 with e2 e3
 subst e1; subst e2; subst e3;have hb : l.b ≠ lr.b := fun e => r.inj id q.r _ _ l lr hg hr (Ne.symm hne) (.inl rfl) hl k1 hz kz e;have a0 := h7 0 _ rfl;have a1 := h7 1 F rfl;have a2 := h7 2 N rfl;obtain ⟨_, y0, y0c, lr', m1, m2, m3, m4, m5, ⟨m6, m7⟩, m8⟩ := a0;rw [k1] at m1; cases m1;obtain ⟨_, y1, y1c, hy1⟩ := a1;obtain ⟨_, y2, y2c, hy2⟩ := a2;obtain rfl := zFJ hF hy1;obtain rfl := zFJ hN hy2;rw [zA8, d3] at y2c;rw [d1] at y1c;refine ⟨hz, lr, room, fr, t, c'.toList, eq, lq, hq', cb.toList, e, lo, hi, k1, kz, k5, k6, k7, k8, d1, d2, d3, ⟨by simpa using h2, by simpa using h6, by simpa using k2, by simpa using k3, hb, rfl, rfl, rfl, rfl, fun _ _ _ => rfl⟩, ⟨?_, ?_, ?_⟩, ⟨by simpa using k9, k10, k11, k12, k13, fun i hi => by simpa using k14 i hi⟩, h3, h4, by simpa using h5⟩
 ·have e0 : (@Tm.den ρ (.ci 0)).asI = 0 := rfl;rw [d2, e0] at m8;rcases m8 with ⟨_, m8 | ⟨m9, _⟩⟩ | ⟨m9, _⟩
  ·rw [m8] at y0c;simpa [k5, k8] using y0c
  ·omega
  ·rw [kz] at m9; cases m9
 ·simpa using y1c
 ·simpa [Dat.asI] using y2c
theorem zUx {μ : Mu} {H : Heap} {w w1 w' : World} (r : Rep μ H.get w) (d : Dom μ H.next) {id : Nat} {q : QTm} (hq : qOf H id = some q) {l : Loc} (hl : μ id = some l) {lr : Loc} {room fr fr' : Nat} {t t' : List UInt8} {cq : List Value} {eq : TypeId} {lq hq' : Nat} {c c' : List Value} {e : TypeId} {lo hi : Nat}
  (kz : l.nil = false) (p1 : μ q.r = some lr) (p2 : lr.nil = false) (p3 : lr.s = 0) (p4 : lr.k = 1) (p5 : lr.ext = room) (p6 : lr.cap = room) (d2 : q.rm.den.asI = room) (hb : QB w w l.b cq eq lq hq' lr.b c e lo hi) (hc : QC cq l.s lr.b room fr t.length)
  (x1 : 3 = l.ext) (x2 : l.ext ≤ l.cap * l.k) (x3 : l.s + l.cap * l.k ≤ cq.length)
  {f : Tm} {tt : Tm} (g1 : f.den.asI = fr') (g2 : tt.den.asS = t') (hB : Below w.heap.size w w1) (hb' : QB w1 w' l.b ((cq.set (l.s + 1) (.int .i64 fr')).set (l.s + 2) (.int .i64 (t'.length : Int))) eq lq hq' lr.b c' e lo hi) (hr' : RingQ c' room fr' t') :
  Evo μ H.get H.next w μ (xEu H id q f tt).get (xEu H id q f tt).next w' := by
 obtain ⟨o, R, F, N, f', n', hg, hr, hF, hN, rfl, rfl, rfl, rfl, hne⟩ := zQG hq;have hlt : lr.b < w.heap.size := (Array.getElem?_eq_some_iff.1 hb.atb).1;have hltq : l.b < w.heap.size := (Array.getElem?_eq_some_iff.1 hb.atq).1;have q1 : QB w1 (w1.setRow lr.b c'.toArray) l.b cq eq lq hq' lr.b c' e lo hi := by
  have a : QB w1 w1 l.b cq eq lq hq' lr.b c e lo hi := ⟨(hB.block _ hltq).trans hb.atq, hb.fq, (hB.block _ hlt).trans hb.atb, hb.fb, hb.ne, rfl, rfl, rfl, rfl, fun _ _ _ => rfl⟩;refine a.ofb ⟨setRow_heap w1 lr.b _ _ e _ a.atb, ?_, rfl, rfl, rfl, by simp [World.setRow], fun k hk => setRow_other w1 lr.b k _ hk⟩
  exact hb'.fb
 have ev1 : Evo μ H.get H.next w μ (H.upd q.r (.abs 2 (.pair f (.pair q.rm tt)))).get (H.upd q.r (.abs 2 (.pair f (.pair q.rm tt)))).next (w1.setRow lr.b c'.toArray) := by
  refine zMu r d hr rfl ⟨p1, p2⟩ (fun k hk hk2 => (setRow_other w1 lr.b k _ hk2).trans (hB.block k hk)) (by have := hB.size; simpa [World.setRow] using this) hB.os hB.tape hB.output ?_
  refine ⟨lr, c'.toArray, e, lo, hi, ⟨p1, p2⟩, q1.atb, by simpa using q1.fb, by rw [p5, p6, p4]; omega, p3, p4, room, fr', t', f.den, q.rm.den, tt.den, rfl, g1, d2, g2, p5, p6, by simpa using hr'.len, hr'.r1, hr'.r2, hr'.f0, hr'.n, fun i hi => by simpa using hr'.at_ i hi⟩
 refine ev1.trans ?_;have hget : (H.upd q.r (.abs 2 (.pair f (.pair q.rm tt)))).get id = some (.row [.sslice q.r 1 (.ci 0) q.rm, F, N] true q.lf) := by rw [zH2, if_neg (Ne.symm hne)]; exact hg
 refine zMx ev1.rep ev1.dom hget rfl ⟨hl, kz⟩ (fun k hk => ?_) (hb'.size.trans q1.size.symm) (hb'.os.trans q1.os.symm) (hb'.tape.trans q1.tape.symm) (hb'.output.trans q1.output.symm) ?_
 ·by_cases e : k = lr.b
  ·subst e; rw [hb'.atb, q1.atb]
  ·rw [hb'.block k hk e, q1.block k hk e]
 ·have hlq := hc.lt;refine ⟨l, _, eq, lq, hq', ⟨hl, kz⟩, hb'.atq, x1, x2, by simpa using x3, fun _ => by simpa using hb'.fq, fun i x hx => ?_⟩
  have e0 : (@Tm.den ρ (.ci 0)).asI = 0 := rfl;rcases i with _ | _ | _ | i
  ·obtain rfl := Option.some.inj hx;refine ⟨rfl, _, (show _ = some (Value.slice (some ⟨lr.b, 0, none⟩) room room) from ?_), lr, p1, p4, Nat.one_pos, by rw [e0]; omega, by rw [d2]; omega, ⟨by rw [e0, d2, p5]; simp, by rw [e0, d2, p6]; simp⟩, .inl ⟨p2, .inl ?_⟩⟩
   ·rw [Nat.add_zero];have := hc.c0;simp only [List.getElem?_toArray];rw [List.getElem?_set_ne (by omega), List.getElem?_set_ne (by omega)]
    exact this
   ·rw [e0, d2, p3, p6]; simp
  ·obtain rfl := Option.some.inj hx;refine ⟨by cases f <;> rfl, .int .i64 fr', ?_, by have := @zCO ρ μ .i64 f; rw [g1] at this; exact this⟩
   simp only [List.getElem?_toArray];rw [List.getElem?_set_ne (by omega), List.getElem?_set_self (by omega)]
  ·obtain rfl := Option.some.inj hx;refine ⟨by cases (zCP tt) <;> rfl, .int .i64 (t'.length : Int), ?_, by have := @zCO ρ μ .i64 (zCP tt); rw [zA8, g2] at this; exact this⟩
   simp only [List.getElem?_toArray];rw [List.getElem?_set_self (by rw [List.length_set]; omega)]
  ·simp at hx
def xHy (a b : Tm) : Tm := zFA .rem .i64 a b
theorem zRx {a b : Tm} {x y : Nat} (ha : a.den.asI = x) (hb : b.den.asI = y) : (xHy a b).den.asI = ((x % y : Nat) : Int) := by
 unfold xHy;rw [zAz, ha, hb];show (x : Int).tmod y = _;rw [Int.tmod_eq_emod_of_nonneg (by omega)]
 simp
end
def xCW : List AV → Heap → Option (Tm × AV × Heap)
 | [.ptr id 0, s], H => match qOf H id, xEY s with
  | some q, some t => some (.cb true, mkI .i64 (zCP (zKl t (.ci 0) (zS2 q.rm (zCP q.t)))), xEu H id q q.f (xH6 q.t (zKl t (.ci 0) (zS2 q.rm (zCP q.t)))))
  | _, _ => none
 | _, _ => none
theorem zPh [Rho] (H : Heap) (id : Nat) (q : QTm) (f t : Tm) : LG H (xEu H id q f t) := (LG.upd _ _ _).trans (LG.upd _ _ _)
theorem xCV {ρ : Rho} {args : List AV} {H H' : Heap} {o : Tm} {v : AV} (h : xCW args H = some (o, v, H')) : zCM Tryz.prog 29 args H v H' ∧ LG H H' := by
 letI : Rho := ρ
 unfold xCW at h;split at h
 ·rename_i id s H;split at h
  ·rename_i q t hq hs;cases h;refine ⟨fun μ w cargs hv r d => ?_, zPh _ _ _ _ _⟩;obtain ⟨x, l', ⟨l, hl, rfl⟩, ⟨y, l2, hy, rfl, rfl⟩, rfl⟩ := hv;obtain rfl := zOX hs hy;obtain ⟨kz, lr, room, fr, s0, cq, eq, lq, hq', c, e, lo, hi, p1, p2, p3, p4, p5, p6, d1, d2, d3, hb, hc, hr, x1, x2, x3⟩ := zUy r hq hl;rw [Nat.add_zero];have hk : zBl t.den.asS 0 (q.rm.den.asI - (q.t.den.asS.length : Int)) = t.den.asS.take (room - s0.length) := by
    rw [zGU, d2, d3];congr 1; have := hr.n; omega
   have hp : (zKl t (.ci 0) (zS2 q.rm (zCP q.t))).den = .dS (t.den.asS.take (room - s0.length)) := by
    rw [zFd, zL9, zA8, ← hk]; rfl
   refine (xFB t.den.asS s0 l.b l.s lr.b room fr w hb hc hr).mono fun e' w' he => ?_;obtain ⟨rfl, c', hb', hr'⟩ := he;refine ⟨μ, _, rfl, ?_, ?_⟩
   ·have := @zCO ρ μ .i64 (zCP (zKl t (.ci 0) (zS2 q.rm (zCP q.t))));rw [zA8, hp] at this;have e8 : ((Dat.dI ((Dat.dS (t.den.asS.take (room - s0.length))).asS.length : Int)).asI) = ((min t.den.asS.length (room - s0.length) : Nat) : Int) := by
     show (((t.den.asS.take (room - s0.length)).length : Nat) : Int) = _;rw [List.length_take]; omega
    rw [e8] at this;exact this
   ·refine zUx r d hq hl kz p1 p2 p3 p4 p5 p6 d2 hb hc x1 x2 x3 d1 ?_ (Below.refl _ _) ?_ hr'
    ·rw [zSp, hp, d3]; rfl
    ·rw [set_self hc.c1]; exact hb'
  ·cases h
 ·cases h
def zWt : List AV → Heap → Option (Tm × AV × Heap)
 | [.ptr id 0, m], H => match qOf H id, zTi m with
  | some q, some t => some (.cb true, mkS (zKl q.t (.ci 0) t), xEu H id q (xHy (zMb q.f (zCP (zKl q.t (.ci 0) t))) q.rm) (zKl q.t (zCP (zKl q.t (.ci 0) t)) (zCP q.t)))
  | _, _ => none
 | _, _ => none
theorem zZm {ρ : Rho} {args : List AV} {H H' : Heap} {o : Tm} {v : AV} (h : zWt args H = some (o, v, H')) : zCM Tryz.prog 103 args H v H' ∧ LG H H' := by
 letI : Rho := ρ
 unfold zWt at h;split at h
 ·rename_i id m H;split at h
  ·rename_i q t hq hs;cases h;refine ⟨fun μ w cargs hv r d => ?_, zPh _ _ _ _ _⟩;obtain ⟨x, l', ⟨l, hl, rfl⟩, ⟨y, l2, hy, rfl, rfl⟩, rfl⟩ := hv;obtain rfl := zFJ hs hy;obtain ⟨kz, lr, room, fr, s0, cq, eq, lq, hq', c, e, lo, hi, p1, p2, p3, p4, p5, p6, d1, d2, d3, hb, hc, hr, x1, x2, x3⟩ := zUy r hq hl;rw [Nat.add_zero];have hp : (zKl q.t (.ci 0) t).den = .dS (s0.take t.den.asI.toNat) := by
    rw [zFd, d3, ← zGU]; rfl
   have hlt : (s0.take t.den.asI.toNat).length ≤ s0.length := by rw [List.length_take]; omega
   have hdr : s0.drop t.den.asI.toNat = s0.drop (s0.take t.den.asI.toNat).length := by
    rw [List.length_take];by_cases h : t.den.asI.toNat ≤ s0.length
    ·rw [show min t.den.asI.toNat s0.length = t.den.asI.toNat by omega]
    ·rw [List.drop_eq_nil_of_le (by omega), List.drop_eq_nil_of_le (by omega)]
   refine (zWs s0 t.den.asI l.b l.s lr.b room fr w hb hc hr).mono fun e' w' he => ?_;obtain ⟨rfl, w1, hB, hb'⟩ := he;refine ⟨μ, _, rfl, ?_, ?_⟩
   ·have := @zRz ρ μ (zKl q.t (.ci 0) t);rw [hp] at this;exact this
   ·refine zUx (fr' := (fr + (s0.take t.den.asI.toNat).length) % room) (t' := s0.drop t.den.asI.toNat) r d hq hl kz p1 p2 p3 p4 p5 p6 d2 hb hc x1 x2 x3 ?_ ?_ hB hb' ?_
    ·refine zRx ?_ d2;rw [zEL, zA8, hp, d1];show (fr : Int) + (((s0.take t.den.asI.toNat).length : Nat) : Int) = _;omega
    ·rw [zFd, zA8, zA8, hp, d3, hdr];show zBl s0 (((s0.take t.den.asI.toNat).length : Nat) : Int) (s0.length : Int) = _;unfold zBl;simp only [Int.toNat_natCast];rw [List.take_of_length_le (by simp)]
    ·rw [hdr]; exact zMT hr _ hlt
  ·cases h
 ·cases h
def zPT : List AV → Heap → Option (Tm × AV × Heap)
 | [.ptr id 0], H => match qOf H id with
  | some q => some (.cb true, mkI .i64 (zCP q.t), xEu H id q (xHy (zMb q.f (zCP q.t)) q.rm) (.cs []))
  | _ => none
 | _, _ => none
theorem zX7 {ρ : Rho} {args : List AV} {H H' : Heap} {o : Tm} {v : AV} (h : zPT args H = some (o, v, H')) : zCM Tryz.prog 67 args H v H' ∧ LG H H' := by
 letI : Rho := ρ
 unfold zPT at h;split at h
 ·rename_i id H;split at h
  ·rename_i q hq;cases h;refine ⟨fun μ w cargs hv r d => ?_, zPh _ _ _ _ _⟩;obtain ⟨x, l', ⟨l, hl, rfl⟩, rfl, rfl⟩ := hv;obtain ⟨kz, lr, room, fr, s0, cq, eq, lq, hq', c, e, lo, hi, p1, p2, p3, p4, p5, p6, d1, d2, d3, hb, hc, hr, x1, x2, x3⟩ := zUy r hq hl;rw [Nat.add_zero];refine (zZP s0 l.b l.s lr.b room fr w hb hc hr).mono fun e' w' he => ?_;obtain ⟨rfl, w1, hB, hb'⟩ := he;refine ⟨μ, _, rfl, ?_, ?_⟩
   ·have := @zCO ρ μ .i64 (zCP q.t);rw [zA8, d3] at this;exact this
   ·refine zUx (fr' := (fr + s0.length) % room) (t' := []) r d hq hl kz p1 p2 p3 p4 p5 p6 d2 hb hc x1 x2 x3 ?_ rfl hB hb' ?_
    ·refine zRx ?_ d2;rw [zEL, zA8, d3, d1];show (fr : Int) + ((s0.length : Nat) : Int) = _;omega
    ·have := zMT hr s0.length (Nat.le_refl _)
     rwa [List.drop_length] at this
  ·cases h
 ·cases h
def zZn : List AV → Heap → Option (Tm × AV × Heap)
 | [r], H => match zTi r with
  | some R => some (zSr (zFA .leq .i64 (.ci 1) R) (zFA .leq .i64 R (.ci 4096)), .ptr (H.next + 1) 0, (H.new (.abs 2 (.pair (.ci 0) (.pair R (.cs []))))).new (.row [.sslice H.next 1 (.ci 0) R, .int .i64 0, .int .i64 0] true false))
  | _ => none
 | _, _ => none
theorem zWu {ρ : Rho} {args : List AV} {H H' : Heap} {o : Tm} {v : AV} (h : zZn args H = some (o, v, H')) (ho : o.den.asB = true) : zCM Tryz.prog 46 args H v H' ∧ LG H H' := by
 letI : Rho := ρ
 unfold zZn at h;split at h
 ·rename_i r;cases hi : zTi r with
  | none => rw [hi] at h; cases h
  | some R =>
   rw [hi] at h; cases h;rw [zBD, zAz, zAz] at ho;have h1 : 1 ≤ R.den.asI := of_decide_eq_true (Bool.and_eq_true_iff.1 ho).1;have h2 : R.den.asI ≤ 4096 := of_decide_eq_true (Bool.and_eq_true_iff.1 ho).2;obtain ⟨room, hroom⟩ : ∃ room : Nat, R.den.asI = room := ⟨R.den.asI.toNat, by omega⟩
   refine ⟨fun μ w cargs hv rr d => ?_, (LG.new _ _).trans (LG.new _ _)⟩;obtain ⟨x, l, hx, rfl, rfl⟩ := hv;obtain rfl := zFJ hi hx;have hs := xFJ room (by omega) (by omega) w
   rw [← hroom] at hs;refine hs.mono fun e w' ⟨c, e1, e2, hcl, he, hw⟩ => ?_;have ev1 := zD1 rr d ((Below.refl w.heap.size w).alloc (Nat.le_refl _) (.cells c.toArray e1)) (.abs 2 (.pair (.ci 0) (.pair R (.cs [])))) ⟨w.heap.size, 0, room, 1, room, false⟩ (Nat.le_refl _) (fun μ' hm => by
    refine ⟨_, c.toArray, e1, 0, 0, ⟨hm, rfl⟩, heap_alloc_new w _, .inr (Nat.le_refl _), by simp, rfl, rfl, room, 0, [], .dI 0, R.den, .dS [], rfl, rfl, hroom, rfl, rfl, rfl, by simpa using hcl, by omega, by omega, by omega, Nat.zero_le _, fun i hi => absurd hi (Nat.not_lt_zero _)⟩)
   have hsz : (w.alloc (.cells c.toArray e1)).heap.size = w.heap.size + 1 := by show (w.heap.push _).size = _; simp
   have ev2 := zMw ev1.rep ev1.dom ((Below.refl (w.alloc (.cells c.toArray e1)).heap.size (w.alloc (.cells c.toArray e1))).alloc (Nat.le_refl _) (.cells #[.slice (some ⟨w.heap.size, 0, none⟩) room room, .int .i64 0, .int .i64 0] e2)) (.row [.sslice H.next 1 (.ci 0) R, .int .i64 0, .int .i64 0] true false) ⟨w.heap.size + 1, 0, 3, 1, 3, false⟩ (by rw [hsz]; exact Nat.le_refl _) (fun μ' hx hm => by
    have hm1 := hx H.next ⟨w.heap.size, 0, room, 1, room, false⟩ (by simp [setMu])
    refine ⟨_, #[.slice (some ⟨w.heap.size, 0, none⟩) room room, .int .i64 0, .int .i64 0], e2, 0, 0, ⟨hm, rfl⟩, ?_, rfl, by simp, by simp, fun _ => .inr (Nat.le_refl _), fun i x hx => ?_⟩
    ·have := heap_alloc_new (w.alloc (.cells c.toArray e1)) (.cells #[.slice (some ⟨w.heap.size, 0, none⟩) room room, .int .i64 0, .int .i64 0] e2);rw [hsz] at this;exact this
    ·have e0 : (@Tm.den ρ (.ci 0)).asI = 0 := rfl;rcases i with _ | _ | _ | i
     ·obtain rfl := Option.some.inj hx;refine ⟨rfl, _, rfl, ⟨w.heap.size, 0, room, 1, room, false⟩, hm1, rfl, Nat.one_pos, by rw [e0]; omega, by omega, ⟨by rw [e0, hroom]; simp, by rw [e0, hroom]; simp⟩, .inl ⟨rfl, .inl ?_⟩⟩
      rw [e0, hroom]; simp
     ·obtain rfl := Option.some.inj hx;exact ⟨rfl, _, rfl, rfl⟩
     ·obtain rfl := Option.some.inj hx;exact ⟨rfl, _, rfl, rfl⟩
     ·simp at hx)
   rw [← hw] at ev2;refine ⟨_, _, he, ?_, ev1.trans ev2⟩;exact ⟨⟨w.heap.size + 1, 0, 3, 1, 3, false⟩, if_pos rfl, rfl⟩
 ·cases h
end
end Go.Proofs.YtenkabjkgngcdaaGreat.Ab
