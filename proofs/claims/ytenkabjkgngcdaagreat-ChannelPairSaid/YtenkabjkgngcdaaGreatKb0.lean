import Derived.Test.YtenkabjkgngcdaaGreatKa9
import Derived.BigRegion
set_option linter.unusedVariables false
set_option linter.unusedSimpArgs false
set_option linter.unusedSectionVars false
namespace Go.Proofs.YtenkabjkgngcdaaGreat
open Go Go.RowKit
theorem xFX (b n : Nat) (w : World) (c2 : w.cell? ⟨b, 4097, none⟩ = some (.int .i64 n)) :
  Calls Tryz.prog 37 #[.pointer (some ⟨b, 0, none⟩)] w fun e w' => e = .returned (.int .i64 (n : Int)) ∧ w' = w := by
 go_enter Tryz.func37, Tryz.ntmps37
 go_wp2
 go_ret
 exact ⟨rfl, rfl⟩
theorem zYM {c : List Value} {room fr : Nat} {t : List UInt8} (h : RingIs c room fr t) (n : Nat) (hn : n ≤ t.length) :
  RingIs ((c.set 4096 (.int .i64 (((fr + n) % room : Nat) : Int))).set 4097 (.int .i64 ((t.length : Int) - n))) room ((fr + n) % room) (t.drop n) := by
 have hr1 := h.r1;have hr2 := h.r2;have hfr := h.f0;have hl := h.len;have hnr := h.n;refine ⟨by simpa using hl, hr1, hr2, Nat.mod_lt _ hr1, by rw [List.length_drop]; omega, ?_, ?_, ?_, ?_, fun i hi => ?_⟩
 ·rw [List.getElem?_set_ne (by decide), List.getElem?_set_self (by omega)]
 ·rw [List.getElem?_set_self (by rw [List.length_set]; omega), List.length_drop]
  congr 2; omega
 ·rw [List.getElem?_set_ne (by decide), List.getElem?_set_ne (by decide)]; exact h.c2
 ·rw [List.getElem?_set_ne (by decide), List.getElem?_set_ne (by decide)]; exact h.c3
 ·have hi' : i < t.length - n := by simpa using hi
  have hx : ((fr + n) % room + i) % room < room := Nat.mod_lt _ hr1;rw [List.getElem?_set_ne (by omega), List.getElem?_set_ne (by omega), Nat.mod_add_mod, Nat.add_assoc, h.at_ (n + i) (by omega), List.getElem?_drop]
theorem zSC {c : List Value} {room fr : Nat} {t : List UInt8} (h : RingIs c room fr t) {j : Nat} (hj : j < t.length) (hr : fr + j < room) : c[fr + j]? = (t[j]?).map fun b => .int .u8 (b.toNat : Int) := by
 have := h.at_ j hj
 rwa [Nat.mod_eq_of_lt hr] at this
theorem zUs {c : List Value} {room fr : Nat} {t : List UInt8} (h : RingIs c room fr t) {j : Nat} (hj : room - fr + j < t.length) : c[j]? = (t[room - fr + j]?).map fun b => .int .u8 (b.toNat : Int) := by
 have hfr := h.f0;have hn := h.n;have := h.at_ (room - fr + j) hj;have e : (fr + (room - fr + j)) % room = j := by rw [show fr + (room - fr + j) = room + j by omega, Nat.add_mod_left, Nat.mod_eq_of_lt (by omega)]
 rwa [e] at this
theorem zC2 (l : List UInt8) : ∀ v ∈ zAe l, v.oneCell' = true := by
 intro v hv;simp only [zAe, List.mem_map] at hv;obtain ⟨b, _, rfl⟩ := hv;rfl
theorem zFn {l : List UInt8} {j : Nat} {v : Value} (h : (zAe l)[j]? = some v) : j < l.length ∧ (l[j]?).map (fun b => Value.int .u8 (b.toNat : Int)) = some v := by
 simp only [zAe, List.getElem?_map] at h;refine ⟨?_, h⟩;rcases Nat.lt_or_ge j l.length with h1 | h1
 ·exact h1
 ·rw [List.getElem?_eq_none h1] at h; cases h
theorem zLu {P : Program} (w : World) (src dst e : TypeId) (hs : P.underlying src = some (.slice e)) (he : P.underlying e = some (.int .u8)) (hd : P.underlying dst = some .string) (g n cap : Nat) (l : List UInt8) (hl : l.length = n) (t : TypeId) (fr : Nat × Nat)
  (hrow : w.heap[g]? = some (.cells (zAe l).toArray t fr)) : (convert src dst (.slice (some ⟨g, 0, none⟩) n cap)).run P w = .ok (.string (S l)) w := by
 have h := run_convert_bytes_arg w src e hs he g 0 n cap (l.map fun b => (b.toNat : Int)) (by simpa using hl) (fun i hi => by
  rw [Lib.cell_of_heap hrow];simp [zAe, List.getElem?_eq_getElem (show i < l.length by omega), List.getD_eq_getElem?_getD]) dst hd
 rw [h];congr 2;simp only [strOfNums, List.map_map, S];congr 2
 conv => rhs; rw [← List.map_id l]
 apply List.map_congr_left;intro b _;simp
theorem xDq : (Tryz.prog.info? 5).map (fun i => (i.zero, i.size, i.bytes)) = some (some (.int .u8 0), 1, 1) := by kernel_rfl
set_option maxHeartbeats 1000000 in
set_option maxRecDepth 100000 in
theorem xGe (t : List UInt8) (most : Int) (b room fr : Nat) (w : World) (c : List Value) (e : TypeId) (lo hi : Nat) (hb : BufAt w w b c e lo hi) (hr : RingIs c room fr t) :
  Calls Tryz.prog 30 #[.pointer (some ⟨b, 0, none⟩), .int .i64 most] w fun ex w' => ex = .returned (.string (S (t.take most.toNat))) ∧ ∃ c' fr', (∃ w1, Below w.heap.size w w1 ∧ BufAt w1 w' b c' e lo hi) ∧ RingIs c' room fr' (t.drop most.toNat) := by
 have c1 := (hb.cell 4096).trans hr.c0;have c2 := (hb.cell 4097).trans hr.c1;have c3 := (hb.cell 4098).trans hr.c2;have h1 := hr.r1;have h2 := hr.r2;have h3 := hr.f0;have h4 := hr.n;have hbw : b < w.heap.size := (Array.getElem?_eq_some_iff.1 hb.at_).1
 go_enter Tryz.func30, Tryz.ntmps30
 go_wp2_with (go_at_call 37; refine (xFX b t.length w c2).mono ?_)
 rintro ex w' ⟨rfl, rfl⟩
 go_wp2
 ·rename_i hz
  go_ret
  have h0 : max 0 (min most (t.length : Int)) = 0 := by simpa using hz
  have h5 : t.take most.toNat = [] := List.eq_nil_of_length_eq_zero (by rw [List.length_take]; omega)
  have h6 : t.drop most.toNat = t := by
   have := List.take_append_drop most.toNat t
   rwa [h5, List.nil_append] at this
  rw [h5, h6];exact ⟨rfl, c, fr, ⟨_, Below.refl _ _, hb⟩, hr⟩
 ·have hz : (max 0 (min most (t.length : Int)) == 0) = false := by assumption
  have e1 : max 0 (min most (t.length : Int)) = ((min most.toNat t.length : Nat) : Int) := by omega
  obtain ⟨n, hn⟩ : ∃ n, n = min most.toNat t.length := ⟨_, rfl⟩;have hn0 : 0 < n := by
   rcases Nat.eq_zero_or_pos n with h0 | h0
   ·exfalso;have : max 0 (min most (t.length : Int)) = 0 := by omega
    rw [this] at hz;cases hz
   ·exact h0
  rw [← hn] at e1;simp only [e1];clear hz;have hnl : n ≤ t.length := by omega
  have hn' : Hid (n = min most.toNat t.length) := hn;clear hn e1;rw [xDj (P := Tryz.prog) 111 5 (.int .u8 0) 1 Tryz.underlying111 xDq rfl n n (Nat.le_refl _) (by decide) (by omega)]
  simp only [Result.andThen];rw [Oper.upon_value];obtain ⟨Z, hZ, hZl⟩ : ∃ Z : List Value, madeCells #[.int .u8 0] n = Z.toArray ∧ Z.length = n := ⟨(madeCells #[.int .u8 0] n).toList, by simp, by rw [Array.length_toList]; exact size_madeCells _ _⟩
  rw [hZ];clear hZ;have hB := (Below.refl w'.heap.size w').alloc (Nat.le_refl _) (.cells Z.toArray 5);have hG : Hid ((w'.alloc (.cells Z.toArray 5)).heap[w'.heap.size]? = some (.cells Z.toArray 5 (0, 0))) := heap_alloc_new w' _;generalize w'.alloc (.cells Z.toArray 5) = W1 at hB hG;generalize hg : w'.heap.size = g at hB hG hbw;have hbW : BufAt W1 W1 b c e lo hi := ⟨(hB.block b hbw).trans hb.at_, hb.free, rfl, rfl, rfl, rfl, fun _ _ => rfl⟩;clear c1 c2 c3;have c1 := (hbW.cell 4096).trans hr.c0;have c3 := (hbW.cell 4098).trans hr.c2;have f1 : (fr : Int) ≤ room := by omega
  have f2 : (room : Int) ≤ 4096 := by omega
  have f3 : fr ≤ room := by omega
  have f5 : 4096 ≠ fr := by omega
  go_wp2
  obtain ⟨fst, hf⟩ : ∃ x, x = min n (room - fr) := ⟨_, rfl⟩;have l1 : ((t.take n).take fst).length = fst := by rw [List.length_take, List.length_take]; omega
  have q2 : Hid ((zAe ((t.take n).take fst)).length = Nat.min (room - fr) n) := by
   show _ = min (room - fr) n;rw [zAi, l1]; omega
  have q3 : 0 + (zAe ((t.take n).take fst)).length ≤ Z.length := by rw [zAi, l1]; omega
  have q5 : Hid ((zAe ((t.take n).take fst)).length = fst) := by show _ = _; rw [zAi, l1]
  have q6 : ∀ v ∈ zAe ((t.take n).take fst), v.oneCell' = true := zC2 _;have q7 : Hid (∀ j v, (zAe ((t.take n).take fst))[j]? = some v → W1.drew.cell? ((⟨b, fr, none⟩ : Addr).add j) = some v) := by
   intro j v hj;obtain ⟨hj1, hj2⟩ := zFn hj;rw [l1] at hj1;have hadd : (⟨b, fr, none⟩ : Addr).add j = ⟨b, fr + j, none⟩ := by unfold Addr.add; split <;> simp_all
   rw [hadd];show W1.cell? _ = _;rw [hbW.cell, zSC hr (by omega) (by omega), ← hj2, List.getElem?_take, if_pos hj1, List.getElem?_take, if_pos (by omega)]
  have hf' : Hid (fst = min n (room - fr)) := hf;have q8 : fst ≤ n := by omega
  have q9 : fst ≤ room - fr := by omega
  clear hf l1;generalize hcs : zAe ((t.take n).take fst) = cs1 at q2 q3 q5 q6 q7;have hcs' : Hid (zAe ((t.take n).take fst) = cs1) := hcs;clear hcs
  go_region_law (refine step_copy_splice rfl (.tmp 17) (.tmp 29) 111 111 rfl 5 Tryz.underlying111 (by kernel_rfl) _ _ _ _ _ _ rfl rfl g 0 Z 5 hG cs1 q2 (fun _ => ⟨rfl, _, rfl, q7⟩) q3 q6 g w' hB.drew (Nat.le_refl _) ?_; intro w2 hG2 hB2)
  all_goals
   rw [show cs1.length = fst from q5]
   have hbW2 : BufAt w2 w2 b c e lo hi := ⟨(hB2.block b hbw).trans hb.at_, hb.free, rfl, rfl, rfl, rfl, fun _ _ => rfl⟩;clear c1 c3;have c1 := (hbW2.cell 4096).trans hr.c0;have c2 := (hbW2.cell 4097).trans hr.c1;have c3 := (hbW2.cell 4098).trans hr.c2;have f6 : (fst : Int) ≤ n := by omega
   go_wp2
   have l2 : ((t.take n).drop fst).length = n - fst := by rw [List.length_drop, List.length_take]; omega
   have hff := hf'.out;have p2 : Hid ((zAe ((t.take n).drop fst)).length = Nat.min room (n - fst)) := by
    show _ = min room (n - fst);rw [zAi, l2]; omega
   have p0 : (splice Z 0 cs1).length = n := by rw [length_splice _ _ _ q3, hZl]
   have p3 : fst + (zAe ((t.take n).drop fst)).length ≤ (splice Z 0 cs1).length := by rw [zAi, l2, p0]; omega
   have p6 : ∀ v ∈ zAe ((t.take n).drop fst), v.oneCell' = true := zC2 _;have p7 : Hid (∀ j v, (zAe ((t.take n).drop fst))[j]? = some v → w2.drew.cell? ((⟨b, 0, none⟩ : Addr).add j) = some v) := by
    intro j v hj;obtain ⟨hj1, hj2⟩ := zFn hj;rw [l2] at hj1;have hadd : (⟨b, 0, none⟩ : Addr).add j = ⟨b, j, none⟩ := by unfold Addr.add; split <;> simp_all
    rw [hadd];show w2.cell? _ = _;have hfr : fst = room - fr := by omega
    rw [hbW2.cell, zUs hr (by omega), ← hj2, List.getElem?_drop, List.getElem?_take, if_pos (by omega), hfr]
   have p8 : Hid (0 < (zAe ((t.take n).drop fst)).length → ¬ n = fst) := by
    intro h; rw [zAi, l2] at h; omega
   clear hff l2;generalize hcs2 : zAe ((t.take n).drop fst) = cs2 at p2 p3 p6 p7 p8;have hcs2' : Hid (zAe ((t.take n).drop fst) = cs2) := hcs2;clear hcs2
   go_region_law (refine step_copy_splice rfl (.tmp 33) (.tmp 41) 111 111 rfl 5 Tryz.underlying111 (by kernel_rfl) _ _ _ _ _ _ rfl rfl g fst (splice Z 0 cs1) 5 hG2 cs2 p2 (fun h => ⟨by rw [if_neg (p8 h)], _, rfl, p7⟩) p3 p6 g w' hB2.drew (Nat.le_refl _) ?_; intro w3 hG3 hB3)
  all_goals
   obtain rfl : zAe ((t.take n).take fst) = cs1 := hcs';obtain rfl : zAe ((t.take n).drop fst) = cs2 := hcs2';have hrow : Hid (w3.heap[g]? = some (.cells (zAe (t.take n)).toArray 5 (0, 0))) := by
    have hG3o := hG3.out;have hL : splice (splice Z 0 (zAe ((t.take n).take fst))) fst (zAe ((t.take n).drop fst)) = zAe (t.take n) := by
     have a1 : (zAe ((t.take n).take fst)).length = fst := q5.out;have a2 : (zAe ((t.take n).drop fst)).length = n - fst := by rw [zAi, List.length_drop, List.length_take]; omega
     have a3 : zAe (t.take n) = zAe ((t.take n).take fst) ++ zAe ((t.take n).drop fst) := by
      unfold zAe; rw [← List.map_append, List.take_append_drop]
     rw [a3];unfold splice;rw [a1, a2, show fst + (n - fst) = n by omega]
     simp only [List.take_zero, List.nil_append, Nat.zero_add, List.drop_append, a1];rw [List.take_append_of_le_length (by omega), List.take_of_length_le (by omega)]
     have a4 : (zAe ((t.take n).take fst)).drop n = [] := List.drop_eq_nil_of_le (by omega)
     have a5 : (Z.drop fst).drop (n - fst) = [] := List.drop_eq_nil_of_le (by rw [List.length_drop]; omega)
     rw [a4, a5]; simp
    rw [hL] at hG3o;exact hG3o
   have hbW3 : BufAt w3 w3 b c e lo hi := ⟨(hB3.block b hbw).trans hb.at_, hb.free, rfl, rfl, rfl, rfl, fun _ _ => rfl⟩;clear c1 c2 c3 hG3 hG2 q2 q3 q5 q6 q7 p2 p3 p6 p7 p8;have c1 := (hbW3.cell 4096).trans hr.c0;have c2 := (hbW3.cell 4097).trans hr.c1;have c3 := (hbW3.cell 4098).trans hr.c2;have n1 : w3.frozen? ⟨b, 4096, none⟩ = false := hbW3.nf (by rw [hr.len]; decide)
   have n2 : w3.frozen? ⟨b, 4097, none⟩ = false := hbW3.nf (by rw [hr.len]; decide)
   have k1 : IntKind.i64.wrap ((fr : Int) + n) = (fr : Int) + n := Ab.i64wrap (by omega) (by omega)
   have k2 : IntKind.i64.wrap ((t.length : Int) - n) = (t.length : Int) - n := Ab.i64wrap (by omega) (by omega)
   have k3 : (room : Int) ≠ 0 := by omega
   generalize (if n = fst then some (⟨g, 0, none⟩ : Addr) else some ⟨g, fst, none⟩) = dp
   go_wp2
  all_goals
   go_region
   go_wp2
   have hW4 := ((hbW3.setCell 4096 (.int .i64 (((fr : Int) + n) % room))).setCell 4097 (.int .i64 ((t.length : Int) - n))).drew;generalize hW : ((w3.setCell ⟨b, 4096, none⟩ (.int .i64 (((fr : Int) + n) % room))).setCell ⟨b, 4097, none⟩ (.int .i64 ((t.length : Int) - n))).drew = W4;rw [hW] at hW4;have hl5 : (t.take n).length = n := by rw [List.length_take]; omega
   rw [zLu (P := Tryz.prog) W4 111 9 5 Tryz.underlying111 Tryz.underlying5 Tryz.underlying9 g n n (t.take n) hl5 5 (0, 0) ((hW4.block g (by omega)).trans hrow)]
   simp only [Result.andThen];rw [Oper.upon_value];clear c1 c2 c3 n1 n2 hW
   go_wp2
   go_ret
   have hnn : t.take n = t.take most.toNat ∧ t.drop n = t.drop most.toNat := by
    have hq := hn'.out;by_cases h : most.toNat ≤ t.length
    ·rw [show n = most.toNat by omega]; exact ⟨rfl, rfl⟩
    ·exact ⟨by rw [List.take_of_length_le (by omega), List.take_of_length_le (by omega)], by rw [List.drop_eq_nil_of_le (by omega), List.drop_eq_nil_of_le (by omega)]⟩
   refine ⟨by rw [← hnn.1]; rfl, _, (fr + n) % room, ⟨w3, by rw [hg]; exact hB3, hW4⟩, ?_⟩
   have hx := zYM hr n hnl;rw [hnn.2, Int.natCast_emod, Int.natCast_add] at hx;exact hx
end Go.Proofs.YtenkabjkgngcdaaGreat
