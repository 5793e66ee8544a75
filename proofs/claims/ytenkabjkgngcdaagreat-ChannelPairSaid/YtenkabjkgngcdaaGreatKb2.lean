import Derived.Test.YtenkabjkgngcdaaGreatKb1
set_option linter.unusedVariables false
set_option linter.unusedSimpArgs false
set_option linter.unusedSectionVars false
namespace Go.Proofs.YtenkabjkgngcdaaGreat
open Go Go.RowKit
structure RingQ (c : List Value) (room fr : Nat) (t : List UInt8) : Prop where
 len : c.length = room
 r1 : 1 ≤ room
 r2 : room ≤ 4096
 f0 : fr < room
 n : t.length ≤ room
 at_ : ∀ i, i < t.length → c[(fr + i) % room]? = (t[i]?).map fun b => .int .u8 (b.toNat : Int)
theorem zUq {c : List Value} {room fr : Nat} {t : List UInt8} (h : RingQ c room fr t) (p : List UInt8) (hp : t.length + p.length ≤ room) (at_ first : Nat) (ha : at_ = (fr + t.length) % room) (hf : first = min p.length (room - at_)) :
  RingQ (splice (splice c at_ (zAe (p.take first))) 0 (zAe (p.drop first))) room fr (t ++ p) := by
 have hr1 := h.r1;have hr2 := h.r2;have hfr := h.f0;have hl := h.len;have hat : at_ < room := by rw [ha]; exact Nat.mod_lt _ hr1
 have l1 : (zAe (p.take first)).length = first := by rw [zAi, List.length_take]; omega
 have l2 : (zAe (p.drop first)).length = p.length - first := by rw [zAi, List.length_drop]
 have f1 : at_ + (zAe (p.take first)).length ≤ c.length := by omega
 have f2 : 0 + (zAe (p.drop first)).length ≤ (splice c at_ (zAe (p.take first))).length := by rw [length_splice _ _ _ f1]; omega
 have hg : ∀ x, (splice (splice c at_ (zAe (p.take first))) 0 (zAe (p.drop first)))[x]? =
   if x < p.length - first then (zAe (p.drop first))[x]? else if at_ ≤ x ∧ x < at_ + first then (zAe (p.take first))[x - at_]? else c[x]? := by
  intro x;rw [zBy _ _ _ f2, zBy _ _ _ f1, l1, l2];simp only [Nat.zero_add, Nat.zero_le, true_and, Nat.sub_zero]
 refine ⟨by rw [length_splice _ _ _ f2, length_splice _ _ _ f1]; exact hl, hr1, hr2, hfr, by simp; omega, fun i hi => ?_⟩
 have hi' : i < t.length + p.length := by simpa using hi
 have hx : (fr + i) % room < room := Nat.mod_lt _ hr1;rw [hg _];have e1 := zMd (fr + i) room (by omega)
 have e2 := zMd (fr + t.length) room (by omega)
 rw [← ha] at e2;by_cases hit : i < t.length
 ·rw [if_neg (by split at e1 <;> split at e2 <;> omega), if_neg (by split at e1 <;> split at e2 <;> omega), List.getElem?_append_left hit]
  exact h.at_ i hit
 ·rw [List.getElem?_append_right (by omega)]
  by_cases hj : i - t.length < first
  ·have e3 : (fr + i) % room = at_ + (i - t.length) := by split at e1 <;> split at e2 <;> omega
   rw [e3, if_neg (by omega), if_pos (by omega)]
   simp only [zAe, List.getElem?_map, Nat.add_sub_cancel_left, List.getElem?_take, if_pos hj]
  ·have e3 : (fr + i) % room = i - t.length - first := by split at e1 <;> split at e2 <;> omega
   rw [e3, if_pos (by omega)]
   simp only [zAe, List.getElem?_map, List.getElem?_drop];congr 2; omega
theorem zMT {c : List Value} {room fr : Nat} {t : List UInt8} (h : RingQ c room fr t) (n : Nat) (hn : n ≤ t.length) : RingQ c room ((fr + n) % room) (t.drop n) := by
 have hr1 := h.r1;have hnr := h.n;refine ⟨h.len, hr1, h.r2, Nat.mod_lt _ hr1, by rw [List.length_drop]; omega, fun i hi => ?_⟩
 have hi' : i < t.length - n := by simpa using hi
 rw [Nat.mod_add_mod, Nat.add_assoc, h.at_ (n + i) (by omega), List.getElem?_drop]
theorem zPg {c : List Value} {room fr : Nat} {t : List UInt8} (h : RingQ c room fr t) {j : Nat} (hj : j < t.length) (hr : fr + j < room) : c[fr + j]? = (t[j]?).map fun b => .int .u8 (b.toNat : Int) := by
 have := h.at_ j hj
 rwa [Nat.mod_eq_of_lt hr] at this
theorem zS9 {c : List Value} {room fr : Nat} {t : List UInt8} (h : RingQ c room fr t) {j : Nat} (hj : room - fr + j < t.length) : c[j]? = (t[room - fr + j]?).map fun b => .int .u8 (b.toNat : Int) := by
 have hfr := h.f0;have hn := h.n;have := h.at_ (room - fr + j) hj;have e : (fr + (room - fr + j)) % room = j := by rw [show fr + (room - fr + j) = room + j by omega, Nat.add_mod_left, Nat.mod_eq_of_lt (by omega)]
 rwa [e] at this
structure QB (w0 w : World) (q : Nat) (cq : List Value) (eq : TypeId) (lq hq : Nat) (b : Nat) (cb : List Value) (eb : TypeId) (lb hb : Nat) : Prop where
 atq : w.heap[q]? = some (.cells cq.toArray eq (lq, hq))
 fq : cq.length ≤ lq ∨ hq ≤ lq
 atb : w.heap[b]? = some (.cells cb.toArray eb (lb, hb))
 fb : cb.length ≤ lb ∨ hb ≤ lb
 ne : q ≠ b
 os : w.os = w0.os
 tape : w.tape = w0.tape
 output : w.output = w0.output
 size : w.heap.size = w0.heap.size
 block : ∀ k, k ≠ q → k ≠ b → w.heap[k]? = w0.heap[k]?
section
variable {w0 w : World} {q : Nat} {cq : List Value} {eq : TypeId} {lq hq b : Nat} {cb : List Value} {eb : TypeId} {lb hb : Nat}
theorem QB.buf (h : QB w0 w q cq eq lq hq b cb eb lb hb) : BufAt w w b cb eb lb hb := ⟨h.atb, h.fb, rfl, rfl, rfl, rfl, fun _ _ => rfl⟩
theorem QB.bufq (h : QB w0 w q cq eq lq hq b cb eb lb hb) : BufAt w w q cq eq lq hq := ⟨h.atq, h.fq, rfl, rfl, rfl, rfl, fun _ _ => rfl⟩
theorem QB.ofb (h : QB w0 w q cq eq lq hq b cb eb lb hb) {w' : World} {cb' : List Value} (k : BufAt w w' b cb' eb lb hb) : QB w0 w' q cq eq lq hq b cb' eb lb hb :=
 ⟨(k.block q h.ne).trans h.atq, h.fq, k.at_, k.free, h.ne, k.os.trans h.os, k.tape.trans h.tape, k.output.trans h.output, k.size.trans h.size, fun j h1 h2 => (k.block j h2).trans (h.block j h1 h2)⟩
theorem QB.ofq (h : QB w0 w q cq eq lq hq b cb eb lb hb) {w' : World} {cq' : List Value} (k : BufAt w w' q cq' eq lq hq) : QB w0 w' q cq' eq lq hq b cb eb lb hb :=
 ⟨k.at_, k.free, (k.block b (Ne.symm h.ne)).trans h.atb, h.fb, h.ne, k.os.trans h.os, k.tape.trans h.tape, k.output.trans h.output, k.size.trans h.size, fun j h1 h2 => (k.block j h1).trans (h.block j h1 h2)⟩
theorem QB.drew (h : QB w0 w q cq eq lq hq b cb eb lb hb) : QB w0 w.drew q cq eq lq hq b cb eb lb hb := ⟨h.atq, h.fq, h.atb, h.fb, h.ne, h.os, h.tape, h.output, h.size, h.block⟩
theorem QB.cell (h : QB w0 w q cq eq lq hq b cb eb lb hb) (i : Nat) : w.cell? ⟨q, i, none⟩ = cq[i]? := h.bufq.cell i
end
theorem set_self {α : Type} {l : List α} {i : Nat} {v : α} (h : l[i]? = some v) : l.set i v = l := by
 apply List.ext_getElem?;intro j;rw [List.getElem?_set];split
 ·rename_i e;subst e;split
  ·exact h.symm
  ·rename_i h2;rw [List.getElem?_eq_none (by omega)] at h; cases h
 ·rfl
structure QC (cq : List Value) (s b room fr n : Nat) : Prop where
 c0 : cq[s]? = some (.slice (some ⟨b, 0, none⟩) room room)
 c1 : cq[s + 1]? = some (.int .i64 fr)
 c2 : cq[s + 2]? = some (.int .i64 n)
theorem QC.lt {cq : List Value} {s b room fr n : Nat} (h : QC cq s b room fr n) : s + 2 < cq.length := by
 rcases Nat.lt_or_ge (s + 2) cq.length with h1 | h1
 ·exact h1
 ·have := h.c2; rw [List.getElem?_eq_none h1] at this; cases this
theorem xBi (q s n : Nat) (w : World) (c2 : w.cell? ⟨q, s + 2, none⟩ = some (.int .i64 n)) :
  Calls Tryz.prog 35 #[.pointer (some ⟨q, s, none⟩)] w fun e w' => e = .returned (.int .i64 (n : Int)) ∧ w' = w := by
 go_enter Tryz.func35, Tryz.ntmps35
 go_wp2
 go_ret
 exact ⟨rfl, rfl⟩
theorem xDD (q s b room n : Nat) (w : World) (h1 : n ≤ room) (h2 : room ≤ 4096) (c0 : w.cell? ⟨q, s, none⟩ = some (.slice (some ⟨b, 0, none⟩) room room)) (c2 : w.cell? ⟨q, s + 2, none⟩ = some (.int .i64 n)) :
  Calls Tryz.prog 64 #[.pointer (some ⟨q, s, none⟩)] w fun e w' => e = .returned (.int .i64 ((room : Int) - n)) ∧ w' = w.drew := by
 go_enter Tryz.func64, Tryz.ntmps64
 have hw : IntKind.i64.wrap ((room : Int) - n) = (room : Int) - n := Ab.i64wrap (by omega) (by omega)
 go_wp2
 go_region
 all_goals
  go_wp2
  go_ret
  exact ⟨rfl, rfl⟩
set_option maxRecDepth 100000 in
set_option maxHeartbeats 1000000 in
theorem xFB (s t : List UInt8) (q s0 b room fr : Nat) (w : World) {cq : List Value} {eq : TypeId} {lq hq : Nat} {c : List Value} {e : TypeId} {lo hi : Nat} (hb : QB w w q cq eq lq hq b c e lo hi) (hc : QC cq s0 b room fr t.length) (hr : RingQ c room fr t) :
  Calls Tryz.prog 29 #[.pointer (some ⟨q, s0, none⟩), .string (S s)] w fun ex w' => ex = .returned (.int .i64 (min s.length (room - t.length) : Nat)) ∧
   ∃ c', QB w w' q (cq.set (s0 + 2) (.int .i64 (((t ++ s.take (room - t.length)).length : Nat) : Int))) eq lq hq b c' e lo hi ∧ RingQ c' room fr (t ++ s.take (room - t.length)) := by
 have c0 := (hb.cell s0).trans hc.c0;have c1 := (hb.cell (s0 + 1)).trans hc.c1;have c2 := (hb.cell (s0 + 2)).trans hc.c2;have h1 := hr.r1;have h2 := hr.r2;have h3 := hr.f0;have h4 := hr.n
 go_enter Tryz.func29, Tryz.ntmps29
 go_wp2_with (go_at_call 64; refine (xDD q s0 b room t.length w h4 h2 c0 c2).mono ?_)
 rintro ex w' ⟨rfl, rfl⟩
 have e1 : min (s.length : Int) ((room : Int) - t.length) = ((min s.length (room - t.length) : Nat) : Int) := by omega
 obtain ⟨k, hk⟩ : ∃ k, k = min s.length (room - t.length) := ⟨_, rfl⟩;have hks : k ≤ s.length := by omega
 have hkr : t.length + k ≤ room := by omega
 rw [← hk] at e1;have f4 : (k : Int) ≤ s.length := by omega
 have hk' : Hid (k = min s.length (room - t.length)) := hk;clear hk
 go_wp2
 ·have hz : (s.take k).isEmpty = true := by assumption
  have hk := hk'.out
  go_ret
  have hl : (s.take k).length = 0 := by rw [List.isEmpty_iff] at hz; rw [hz]; rfl
  rw [List.length_take] at hl;have h5 : min s.length (room - t.length) = 0 := by omega
  have h6 : s.take (room - t.length) = [] := List.eq_nil_of_length_eq_zero (by rw [List.length_take]; omega)
  rw [h5, h6, List.append_nil, set_self hc.c2];exact ⟨rfl, c, hb.drew, hr⟩
 ·have hz : (s.take k).isEmpty = false := by assumption
  have hk2 : (s.take k).length = k := by rw [List.length_take]; omega
  have hk0 : 0 < k := by
   rcases Nat.eq_zero_or_pos k with h0 | h0
   ·exfalso; rw [h0] at hz; simp at hz
   ·exact h0
  clear hz e1 hks hkr hk2;have hne : (room : Int) ≠ 0 := by omega
  have hq2 : q ≠ b := hb.ne
  go_region
  have hk2 : (s.take k).length = k := by rw [List.length_take]; have := hk'.out; omega
  have hks : k ≤ s.length := by have := hk'.out; omega
  have hkr : t.length + k ≤ room := by have := hk'.out; omega
  have e2 : ((fr : Int) + t.length) % room = (((fr + t.length) % room : Nat) : Int) := by rw [Int.natCast_emod, Int.natCast_add]
  have hat : (fr + t.length) % room < room := Nat.mod_lt _ h1;simp only [e2];obtain ⟨at_, ha⟩ : ∃ a, a = (fr + t.length) % room := ⟨_, rfl⟩;rw [← ha];rw [← ha] at hat;have ha' : Hid (at_ = (fr + t.length) % room) := ha;clear ha e2;have f1 : (at_ : Int) ≤ room := by omega
  have f2 : (room : Int) ≤ 4096 := by omega
  have f3 : at_ ≤ room := by omega
  have f5 : room ≠ at_ := by omega
  obtain ⟨fst, hf⟩ : ∃ x, x = min k (room - at_) := ⟨_, rfl⟩;have q1 : Hid (zAe ((s.take k).take fst) = ((S (s.take k)).data.toList.map fun b => Value.int .u8 (b.toNat : Int)).take (Nat.min (S (s.take k)).size (room - at_))) := by
   show _ = _;have : Nat.min (S (s.take k)).size (room - at_) = fst := by rw [hf, ← hk2, hk2]; exact congrArg (min · _) hk2
   rw [this];show ((s.take k).take fst).map _ = _;rw [List.map_take];rfl
  have q2 : Hid ((zAe ((s.take k).take fst)).length = Nat.min (S (s.take k)).size (room - at_)) := by
   show _ = _;rw [zAi, List.length_take, hk2, hf];have : (S (s.take k)).size = k := hk2;rw [this];show min (min k (room - at_)) k = min k (room - at_);omega
  have q3 : at_ + (zAe ((s.take k).take fst)).length ≤ c.length := by rw [zAi, List.length_take, hk2, hr.len]; omega
  have q4 : fst ≤ k := by omega
  have q5 : Hid ((zAe ((s.take k).take fst)).length = fst) := by
   show _ = _;rw [zAi, List.length_take, hk2]; omega
  have hf' : Hid (fst = min k (room - at_)) := hf;clear hf;generalize hcs : zAe ((s.take k).take fst) = cs1 at q1 q2 q3 q5;have hcs' : Hid (zAe ((s.take k).take fst) = cs1) := hcs;clear hcs hk2
  go_wp2
  rw [zHF (P := Tryz.prog) w.drew.drew 111 9 _ 5 b at_ (room - at_) (room - at_) _ c.toArray e lo hi Tryz.underlying111 (by kernel_rfl) hb.atb (by simpa using hb.fb) cs1 q1 q2 (by simpa using q3)]
  simp only [Result.andThen];rw [Oper.upon_value];have hb2 : QB w (w.drew.drew.setRow b (splice c.toArray.toList at_ cs1).toArray) q cq eq lq hq b (splice c at_ cs1) e lo hi := hb.drew.drew.ofb (hb.drew.drew.buf.row _ (length_splice _ _ _ q3));generalize w.drew.drew.setRow b (splice c.toArray.toList at_ cs1).toArray = w2 at hb2;rw [show cs1.length = fst from q5]
  clear c0 c1 c2;have c0 := (hb2.cell s0).trans hc.c0;have c1 := (hb2.cell (s0 + 1)).trans hc.c1;have c2 := (hb2.cell (s0 + 2)).trans hc.c2;have f6 : (fst : Int) ≤ k := by omega
  have f7 : (S (s.take k)).size = k := by show (s.take k).length = k; rw [List.length_take]; omega
  have f8 : fst ≤ (s.take k).length := by rw [List.length_take]; omega
  go_wp2
  have hk2 : (((s.take k).drop fst).take (k - fst)).length = k - fst := by rw [List.length_take, List.length_drop, List.length_take]; omega
  have p1 : Hid (zAe (((s.take k).drop fst).take (k - fst)) = ((S (((s.take k).drop fst).take (k - fst))).data.toList.map fun b => Value.int .u8 (b.toNat : Int)).take (Nat.min (S (((s.take k).drop fst).take (k - fst))).size room)) := by
   refine (List.take_of_length_le ?_ : List.take _ _ = _).symm;show (zAe (((s.take k).drop fst).take (k - fst))).length ≤ min (((s.take k).drop fst).take (k - fst)).length room;rw [zAi];omega
  have p2 : Hid ((zAe (((s.take k).drop fst).take (k - fst))).length = Nat.min (S (((s.take k).drop fst).take (k - fst))).size room) := by
   show _ = min (((s.take k).drop fst).take (k - fst)).length room;rw [zAi];omega
  have p3 : 0 + (zAe (((s.take k).drop fst).take (k - fst))).length ≤ (splice c at_ cs1).length := by rw [zAi, length_splice _ _ _ q3, hr.len]; omega
  generalize hcs : zAe (((s.take k).drop fst).take (k - fst)) = cs2 at p1 p2 p3;have hcs2 : Hid (zAe (((s.take k).drop fst).take (k - fst)) = cs2) := hcs;clear hcs hk2 hks hkr
  go_region_law (refine zEb rfl (.tmp 42) (.tmp 45) 111 9 rfl 5 Tryz.underlying111 (by kernel_rfl) b 0 _ _ _ rfl rfl w2 (splice c at_ cs1) e lo hi hb2.buf.drew cs2 p1 p2 p3 ?_; intro w3 hb3)
  have hb4 := hb2.ofb hb3;clear c0 c1 c2;have c2 := (hb4.cell (s0 + 2)).trans hc.c2;have g2 : w3.frozen? ⟨q, s0 + 2, none⟩ = false := hb4.bufq.nf hc.lt;have hw : IntKind.i64.wrap ((t.length : Int) + k) = (t.length : Int) + k := Ab.i64wrap (by have := hk'.out; omega) (by have := hk'.out; omega)
  go_wp2
  go_ret
  obtain rfl : zAe ((s.take k).take fst) = cs1 := hcs';have hX : (((s.take k).drop fst).take (k - fst)) = (s.take k).drop fst := List.take_of_length_le (by rw [List.length_drop, List.length_take]; have := hk'.out; omega)
  rw [hX] at hcs2;obtain rfl : zAe ((s.take k).drop fst) = cs2 := hcs2;have hk := hk'.out;have hp : (s.take k).length = k := by rw [List.length_take]; omega
  have hy : s.take (room - t.length) = s.take k := by
   by_cases h : room - t.length ≤ s.length
   ·rw [show k = room - t.length by omega]
   ·rw [List.take_of_length_le (by omega), List.take_of_length_le (by omega)]
  have hx := zUq hr (s.take k) (by omega) at_ fst ha'.out (by rw [hp]; exact hf'.out)
  rw [hy];refine ⟨by rw [← hk]; rfl, _, ?_, hx⟩
  have := hb4.ofq (hb4.bufq.setCell (s0 + 2) (.int .i64 ((t.length : Int) + k)));rw [List.length_append, hp, Int.natCast_add];exact this
end Go.Proofs.YtenkabjkgngcdaaGreat
