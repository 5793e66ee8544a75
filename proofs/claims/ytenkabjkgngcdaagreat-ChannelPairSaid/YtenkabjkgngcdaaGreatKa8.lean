import Derived.Test.YtenkabjkgngcdaaGreatKa3
import Derived.Test.YtenkabjkgngcdaaGreatKa0
import Derived.Test.YtenkabjkgngcdaaGreatKa7
import Derived.Laws.CopyOwn
set_option linter.unusedVariables false
set_option linter.unusedSimpArgs false
set_option linter.unusedSectionVars false
namespace Go.Proofs.YtenkabjkgngcdaaGreat
open Go Go.RowKit
structure BufAt (w0 w : World) (g : Nat) (c : List Value) (e : TypeId) (lo hi : Nat) : Prop where
 at_ : w.heap[g]? = some (.cells c.toArray e (lo, hi))
 free : c.length ≤ lo ∨ hi ≤ lo
 os : w.os = w0.os
 tape : w.tape = w0.tape
 output : w.output = w0.output
 size : w.heap.size = w0.heap.size
 block : ∀ k, k ≠ g → w.heap[k]? = w0.heap[k]?
theorem zLk {w : World} {g : Nat} {cur : Array Value} {t : TypeId} {lo hi : Nat} (hg : w.heap[g]? = some (.cells cur t (lo, hi))) (hf : cur.size ≤ lo ∨ hi ≤ lo) {i : Nat} (hi' : i < cur.size) : w.frozen? ⟨g, i, none⟩ = false := by
 simp only [World.frozen?, hg, Bool.and_eq_false_iff, decide_eq_false_iff_not];omega
theorem BufAt.row {w0 w : World} {g : Nat} {c : List Value} {e : TypeId} {lo hi : Nat} (h : BufAt w0 w g c e lo hi) (c' : List Value) (hc : c'.length = c.length) : BufAt w0 (w.setRow g c'.toArray) g c' e lo hi :=
 ⟨setRow_heap w g _ _ e _ h.at_, by rw [hc]; exact h.free, h.os, h.tape, h.output, by simpa [World.setRow] using h.size, fun k hk => (setRow_other w g k _ hk).trans (h.block k hk)⟩
theorem BufAt.cell {w0 w : World} {g : Nat} {c : List Value} {e : TypeId} {lo hi : Nat} (h : BufAt w0 w g c e lo hi) (i : Nat) : w.cell? ⟨g, i, none⟩ = c[i]? := by
 rw [Lib.cell_of_heap h.at_]; simp
theorem BufAt.nf {w0 w : World} {g : Nat} {c : List Value} {e : TypeId} {lo hi : Nat} (h : BufAt w0 w g c e lo hi) {i : Nat} (hi' : i < c.length) : w.frozen? ⟨g, i, none⟩ = false :=
 zLk h.at_ (by simpa using h.free) (by simpa using hi')
theorem BufAt.drew {w0 w : World} {g : Nat} {c : List Value} {e : TypeId} {lo hi : Nat} (h : BufAt w0 w g c e lo hi) : BufAt w0 w.drew g c e lo hi := ⟨h.at_, h.free, h.os, h.tape, h.output, h.size, h.block⟩
theorem BufAt.setCell {w0 w : World} {g : Nat} {c : List Value} {e : TypeId} {lo hi : Nat} (h : BufAt w0 w g c e lo hi) (i : Nat) (v : Value) : BufAt w0 (w.setCell ⟨g, i, none⟩ v) g (c.set i v) e lo hi := by
 rw [setCell_eq_setRow w g i _ e _ v h.at_];have := h.row (c.set i v) (by simp)
 simpa using this
structure RingIs (c : List Value) (room fr : Nat) (t : List UInt8) : Prop where
 len : c.length = 4100
 r1 : 1 ≤ room
 r2 : room ≤ 4096
 f0 : fr < room
 n : t.length ≤ room
 c0 : c[4096]? = some (.int .i64 fr)
 c1 : c[4097]? = some (.int .i64 t.length)
 c2 : c[4098]? = some (.int .i64 room)
 c3 : c[4099]? = some (.int .i64 0)
 at_ : ∀ i, i < t.length → c[(fr + i) % room]? = (t[i]?).map fun b => .int .u8 (b.toNat : Int)
end Go.Proofs.YtenkabjkgngcdaaGreat
namespace Go.Proofs.YtenkabjkgngcdaaGreat.Ab
open Go Go.Proofs.YtenkabjkgngcdaaGreat Go.RowKit
noncomputable section
theorem zIx [ρ : Rho] {μ : Mu} {H : Heap} {w : World} (r : Rep μ H.get w) {id : Nat} {R h : Tm} (hg : H.get id = some (.abs 1 (.pair R h))) {l : Loc} (hl : μ id = some l) :
  l.s = 0 ∧ l.nil = false ∧ l.k = 1 ∧ l.ext = 4100 ∧ l.ext ≤ l.cap * l.k ∧ ∃ (room fr : Nat) (t : List UInt8) (c : List Value) (e : TypeId) (lo hi : Nat), R.den.asI = room ∧ h.den.asS = t ∧ BufAt w w l.b c e lo hi ∧ RingIs c room fr t := by
 obtain ⟨l', c, e, lo, hi, ⟨h1, h1'⟩, h2, h3, h4, h5, h6, h7, h8, room, fr, t, x, y, hd, d1, d2, g1, g2, g3, g4, c1, c2, c3, c4, g5⟩ := r.obj id _ hg;rw [hl] at h1; cases h1;have hd : Dat.dP R.den h.den = _ := hd;injection hd with k1 k2
 rw [← k1] at d1;rw [← k2] at d2;refine ⟨h5, h1', h6, h7, h4, room, fr, t, c.toList, e, lo, hi, d1, d2, ⟨by simpa using h2, by simpa using h3, rfl, rfl, rfl, rfl, fun _ _ => rfl⟩, by simpa using h8, g1, g2, g3, g4, ?_, ?_, ?_, ?_, fun i hi => ?_⟩
 ·simpa using c1
 ·simpa using c2
 ·simpa using c3
 ·simpa using c4
 ·simpa using g5 i hi
theorem zSl [ρ : Rho] {μ : Mu} {w0 w : World} {id : Nat} {l : Loc} (hl : μ id = some l) (e1 : l.s = 0) (e2 : l.nil = false) (e3 : l.k = 1) (e4 : l.ext = 4100) (e5 : l.ext ≤ l.cap * l.k) {R h : Tm} {room fr : Nat} {t : List UInt8} {c : List Value} {e : TypeId} {lo hi : Nat}
  (d1 : R.den.asI = room) (d2 : h.den.asS = t) (hb : BufAt w0 w l.b c e lo hi) (hr : RingIs c room fr t) : RepO μ id w (.abs 1 (.pair R h)) := by
 refine ⟨l, c.toArray, e, lo, hi, ⟨hl, e2⟩, hb.at_, by simpa using hb.free, e5, e1, e3, e4, by simpa using hr.len, room, fr, t, R.den, h.den, rfl, d1, d2, hr.r1, hr.r2, hr.f0, hr.n, ?_, ?_, ?_, ?_, fun i hi => ?_⟩
 ·simpa using hr.c0
 ·simpa using hr.c1
 ·simpa using hr.c2
 ·simpa using hr.c3
 ·simpa using hr.at_ i hi
def zS2 (a b : Tm) : Tm := match a, b with
 | .ci x, .ci y => .ci (x - y)
 | a, b => .minus a b
def zKl (h lo hi : Tm) : Tm := match h, lo, hi with
 | .cs s, .ci a, .ci b => .cs (zBl s a b)
 | h, lo, hi => .cut h lo hi
def xH6 (a b : Tm) : Tm := match a, b with
 | .cs x, .cs y => .cs (x ++ y)
 | .cs [], b => b
 | a, .cs [] => a
 | a, b => .sb .add a b
def xEY : AV → Option Tm
 | .str s => some (.cs s)
 | .sstr t => some t
 | _ => none
def zTi : AV → Option Tm
 | .int .i64 n => some (.ci n)
 | .sint .i64 t => some t
 | _ => none
section
variable [ρ : Rho]
theorem zL9 (a b : Tm) : (zS2 a b).den = .dI (a.den.asI - b.den.asI) := by
 unfold zS2; split <;> rfl
theorem zFd (h lo hi : Tm) : (zKl h lo hi).den = .dS (zBl h.den.asS lo.den.asI hi.den.asI) := by
 unfold zKl; split <;> rfl
theorem zSp (a b : Tm) : (xH6 a b).den.asS = a.den.asS ++ b.den.asS := by
 unfold xH6; split
 ·rfl
 ·rfl
 ·simp [Dat.asS, Tm.den]
 ·rfl
theorem zOX {μ : Mu} {v : AV} {t : Tm} {c : Value} (h : xEY v = some t) (k : VR μ v c) : c = .string (S t.den.asS) := by
 unfold xEY at h;split at h
 ·cases h; exact k
 ·cases h; exact k
 ·cases h
theorem zFJ {μ : Mu} {v : AV} {t : Tm} {c : Value} (h : zTi v = some t) (k : VR μ v c) : c = .int .i64 t.den.asI := by
 unfold zTi at h;split at h
 ·cases h; exact k
 ·cases h; exact k
 ·cases h
end
def zWE : List AV → Heap → Option (Tm × AV × Heap)
 | [.ptr id 0], H => match H.get id with
  | some (.abs 1 (.pair _ h)) => some (.cb true, mkI .i64 (zCP h), H)
  | _ => none
 | _, _ => none
set_option maxHeartbeats 2000000 in
theorem zP4 {ρ : Rho} {args : List AV} {H H' : Heap} {o : Tm} {v : AV} (h : zWE args H = some (o, v, H')) : zCM Tryz.prog 37 args H v H' ∧ LG H H' := by
 letI : Rho := ρ
 unfold zWE at h;split at h
 ·rename_i id H;split at h
  ·rename_i R t hg;cases h;refine ⟨fun μ w cargs hv r d => ?_, LG.refl _⟩;obtain ⟨x, l', ⟨l, hl, rfl⟩, rfl, rfl⟩ := hv;obtain ⟨hs, _, _, _, _, room, fr, s, c, e, lo, hi, d1, d2, hb, hr⟩ := zIx r hg hl;rw [hs];have c2 := (hb.cell 4097).trans hr.c1;have hv : VR μ (mkI .i64 (zCP t)) (.int .i64 (s.length : Int)) := by
    have := @zCO ρ μ .i64 (zCP t);rw [zA8, d2] at this;exact this
   clear hg hl hs hb hr
   go_enter Tryz.func37, Tryz.ntmps37
   go_wp2
   go_ret
   exact ⟨μ, _, rfl, hv, zJR r d (Below.refl _ _)⟩
  ·cases h
 ·cases h
def zXc : List AV → Heap → Option (Tm × AV × Heap)
 | [.ptr id 0], H => match H.get id with
  | some (.abs 1 (.pair R h)) => some (.cb true, mkI .i64 (zS2 R (zCP h)), H)
  | _ => none
 | _, _ => none
theorem freeB_w (b room n : Nat) (w : World) (b1 : n ≤ room) (b2 : room ≤ 4096) (c2 : w.cell? ⟨b, 4097, none⟩ = some (.int .i64 n)) (c3 : w.cell? ⟨b, 4098, none⟩ = some (.int .i64 room)) :
  Calls Tryz.prog 147 #[.pointer (some ⟨b, 0, none⟩)] w fun e w' => e = .returned (.int .i64 ((room : Int) - n)) ∧ w' = w.drew := by
 go_enter Tryz.func147, Tryz.ntmps147
 have hw : IntKind.i64.wrap ((room : Int) - n) = (room : Int) - n := i64wrap (by omega) (by omega)
 go_wp2
 go_region
 all_goals
  go_wp2
  go_ret
  exact ⟨rfl, rfl⟩
theorem zZB {ρ : Rho} {args : List AV} {H H' : Heap} {o : Tm} {v : AV} (h : zXc args H = some (o, v, H')) : zCM Tryz.prog 147 args H v H' ∧ LG H H' := by
 letI : Rho := ρ
 unfold zXc at h;split at h
 ·rename_i id H;split at h
  ·rename_i R t hg;cases h;refine ⟨fun μ w cargs hv r d => ?_, LG.refl _⟩;obtain ⟨x, l', ⟨l, hl, rfl⟩, rfl, rfl⟩ := hv;obtain ⟨hs, _, _, _, _, room, fr, s, c, e, lo, hi, d1, d2, hb, hr⟩ := zIx r hg hl;rw [hs];have hv : VR μ (mkI .i64 (zS2 R (zCP t))) (.int .i64 ((room : Int) - s.length)) := by
    have := @zCO ρ μ .i64 (zS2 R (zCP t));rw [zL9, zA8, d1] at this;simp only [Dat.asI, d2] at this;exact this
   refine (freeB_w l.b room s.length w hr.n hr.r2 ((hb.cell 4097).trans hr.c1) ((hb.cell 4098).trans hr.c2)).mono fun e w' he => ?_;obtain ⟨rfl, rfl⟩ := he;exact ⟨μ, _, rfl, hv, zJR r d (Below.refl _ _).drew⟩
  ·cases h
 ·cases h
theorem zON : Tryz.zeroCells116.size = 4100 := by kernel_rfl
theorem xB6 : Tryz.zeroCells116[4096]? = some (.int .i64 0) := by kernel_rfl
theorem xJ5 : Tryz.zeroCells116[4097]? = some (.int .i64 0) := by kernel_rfl
set_option maxHeartbeats 400000 in
theorem xFK (room : Nat) (h1 : 1 ≤ room) (h2 : room ≤ 4096) (w : World) : Calls Tryz.prog 47 #[.int .i64 (room : Int), .int .i64 0] w fun e w' => e = .returned (.pointer (some ⟨w.heap.size, 0, none⟩)) ∧ Below w.heap.size w w' ∧
  ∃ e', w'.heap[w.heap.size]? = some (.cells ((Tryz.zeroCells116.setIfInBounds 4098 (.int .i64 (room : Int))).setIfInBounds 4099 (.int .i64 0)) e' (0, 0)) := by
 go_enter Tryz.func47, Tryz.ntmps47
 go_wp2
 go_ret
 exact ⟨rfl, (Below.refl _ w).alloc (Nat.le_refl _) _, _, heap_alloc_new w _⟩
def zZo : List AV → Heap → Option (Tm × AV × Heap)
 | [r, .int .i64 0], H => match zTi r with
  | some R => some (zSr (zFA .leq .i64 (.ci 1) R) (zFA .leq .i64 R (.ci 4096)), .ptr H.next 0, H.new (.abs 1 (.pair R (.cs []))))
  | _ => none
 | _, _ => none
theorem zWv {ρ : Rho} {args : List AV} {H H' : Heap} {o : Tm} {v : AV} (h : zZo args H = some (o, v, H')) (ho : o.den.asB = true) : zCM Tryz.prog 47 args H v H' ∧ LG H H' := by
 letI : Rho := ρ
 unfold zZo at h;split at h
 ·rename_i H r;cases hi : zTi r with
  | none => rw [hi] at h; cases h
  | some R =>
   rw [hi] at h; cases h;rw [zBD, zAz, zAz] at ho;have h1 : 1 ≤ R.den.asI := of_decide_eq_true (Bool.and_eq_true_iff.1 ho).1;have h2 : R.den.asI ≤ 4096 := of_decide_eq_true (Bool.and_eq_true_iff.1 ho).2;have hr : R.den.asI = (R.den.asI.toNat : Int) := by omega
   refine ⟨fun μ w cargs hv rr d => ?_, LG.new _ _⟩;obtain ⟨x, l, hx, hl2, rfl⟩ := hv;obtain ⟨y, l2, rfl, rfl, rfl⟩ := hl2;obtain rfl := zFJ hi hx;have hs := xFK R.den.asI.toNat (by omega) (by omega) w
   rw [← hr] at hs;refine hs.mono fun e w' ⟨he, hb, e', hg⟩ => ?_;refine ⟨_, _, he, ?_, zD1 rr d hb _ ⟨w.heap.size, 0, 4100, 1, 4100, false⟩ (Nat.le_refl _) fun μ' hm => ?_⟩
   ·exact ⟨⟨w.heap.size, 0, 4100, 1, 4100, false⟩, if_pos rfl, rfl⟩
   ·refine ⟨_, _, e', 0, 0, ⟨hm, rfl⟩, hg, .inr (Nat.le_refl _), Nat.le_refl 4100, rfl, rfl, rfl, by simp [zON], R.den.asI.toNat, 0, [], R.den, _, rfl, hr, rfl, by omega, by omega, by omega, Nat.zero_le _, ?_, ?_, ?_, ?_, fun i hi => absurd hi (Nat.not_lt_zero _)⟩
    ·rw [Array.getElem?_setIfInBounds_ne (by decide), Array.getElem?_setIfInBounds_ne (by decide)]; exact xB6
    ·rw [Array.getElem?_setIfInBounds_ne (by decide), Array.getElem?_setIfInBounds_ne (by decide)]; exact xJ5
    ·rw [Array.getElem?_setIfInBounds_ne (by decide), Array.getElem?_setIfInBounds_self_of_lt (by rw [zON]; decide), ← hr]
    ·rw [Array.getElem?_setIfInBounds_self_of_lt (by rw [Array.size_setIfInBounds, zON]; decide)]
 ·cases h
end
end Go.Proofs.YtenkabjkgngcdaaGreat.Ab
