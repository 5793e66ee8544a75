import Derived.Test.YtenkabjkgngcdaaGreatKb2
set_option linter.unusedVariables false
set_option linter.unusedSimpArgs false
set_option linter.unusedSectionVars false
namespace Go.Proofs.YtenkabjkgngcdaaGreat
open Go Go.RowKit
set_option maxRecDepth 100000 in
set_option maxHeartbeats 1000000 in
theorem xDd (t : List UInt8) (most : Int) (q s0 b room fr : Nat) (w : World) {cq : List Value} {eq : TypeId} {lq hq : Nat} {c : List Value} {e : TypeId} {lo hi : Nat} (hb0 : QB w w q cq eq lq hq b c e lo hi) (hc : QC cq s0 b room fr t.length) (hr : RingQ c room fr t) :
  Calls Tryz.prog 134 #[.pointer (some ⟨q, s0, none⟩), .int .i64 most] w fun ex w' => ex = .returned (.string (S (t.take most.toNat))) ∧ Below w.heap.size w w' := by
 have c0 := (hb0.cell s0).trans hc.c0;have c1 := (hb0.cell (s0 + 1)).trans hc.c1;have c2 := (hb0.cell (s0 + 2)).trans hc.c2;have h1 := hr.r1;have h2 := hr.r2;have h3 := hr.f0;have h4 := hr.n;have hbw : b < w.heap.size := (Array.getElem?_eq_some_iff.1 hb0.atb).1;have hqw : q < w.heap.size := (Array.getElem?_eq_some_iff.1 hb0.atq).1
 go_enter Tryz.func134, Tryz.ntmps134
 go_wp2_with (go_at_call 35; refine (xBi q s0 t.length w c2).mono ?_)
 rintro ex w' ⟨rfl, rfl⟩
 go_wp2
 have e1 : max 0 (min most (t.length : Int)) = ((min most.toNat t.length : Nat) : Int) := by omega
 obtain ⟨n, hn⟩ : ∃ n, n = min most.toNat t.length := ⟨_, rfl⟩;rw [← hn] at e1;simp only [e1];have hnl : n ≤ t.length := by omega
 have hn' : Hid (n = min most.toNat t.length) := hn;clear hn e1;rw [xDj (P := Tryz.prog) 111 5 (.int .u8 0) 1 Tryz.underlying111 xDq rfl n n (Nat.le_refl _) (by decide) (by omega)]
 simp only [Result.andThen];rw [Oper.upon_value];obtain ⟨Z, hZ, hZl⟩ : ∃ Z : List Value, madeCells #[.int .u8 0] n = Z.toArray ∧ Z.length = n := ⟨(madeCells #[.int .u8 0] n).toList, by simp, by rw [Array.length_toList]; exact size_madeCells _ _⟩
 rw [hZ];clear hZ;have hB := (Below.refl w'.heap.size w').alloc (Nat.le_refl _) (.cells Z.toArray 5);have hG : Hid ((w'.alloc (.cells Z.toArray 5)).heap[w'.heap.size]? = some (.cells Z.toArray 5 (0, 0))) := heap_alloc_new w' _;generalize w'.alloc (.cells Z.toArray 5) = W1 at hB hG;generalize hg : w'.heap.size = g at hB hG hbw hqw;have hbW : QB W1 W1 q cq eq lq hq b c e lo hi := ⟨(hB.block q hqw).trans hb0.atq, hb0.fq, (hB.block b hbw).trans hb0.atb, hb0.fb, hb0.ne, rfl, rfl, rfl, rfl, fun _ _ _ => rfl⟩;clear c0 c1 c2;have c0 := (hbW.cell s0).trans hc.c0;have c1 := (hbW.cell (s0 + 1)).trans hc.c1;have f1 : (fr : Int) ≤ room := by omega
 have f2 : (room : Int) ≤ 4096 := by omega
 have f3 : fr ≤ room := by omega
 have f5 : room ≠ fr := by omega
 go_wp2
 ·have hz : ((n : Int) == 0) = true := by assumption
  have hn := hn'.out
  go_ret
  have h0 : n = 0 := by simpa using hz
  have h5 : t.take most.toNat = [] := List.eq_nil_of_length_eq_zero (by rw [List.length_take]; omega)
  rw [h5, hg];exact ⟨rfl, hB⟩
 ·have hz : ((n : Int) == 0) = false := by assumption
  have hn0 : 0 < n := by
   rcases Nat.eq_zero_or_pos n with h0 | h0
   ·exfalso; subst h0; cases hz
   ·exact h0
  clear hz;obtain ⟨fst, hf⟩ : ∃ x, x = min n (room - fr) := ⟨_, rfl⟩;have l1 : ((t.take n).take fst).length = fst := by rw [List.length_take, List.length_take]; omega
  have q2 : Hid ((zAe ((t.take n).take fst)).length = Nat.min (room - fr) n) := by
   show _ = min (room - fr) n;rw [zAi, l1]; omega
  have q3 : 0 + (zAe ((t.take n).take fst)).length ≤ Z.length := by rw [zAi, l1]; omega
  have q5 : Hid ((zAe ((t.take n).take fst)).length = fst) := by show _ = _; rw [zAi, l1]
  have q6 : ∀ v ∈ zAe ((t.take n).take fst), v.oneCell' = true := zC2 _;have q7 : Hid (∀ j v, (zAe ((t.take n).take fst))[j]? = some v → W1.drew.cell? ((⟨b, fr, none⟩ : Addr).add j) = some v) := by
   intro j v hj;obtain ⟨hj1, hj2⟩ := zFn hj;rw [l1] at hj1;have hadd : (⟨b, fr, none⟩ : Addr).add j = ⟨b, fr + j, none⟩ := by unfold Addr.add; split <;> simp_all
   rw [hadd];show W1.cell? _ = _;rw [hbW.buf.cell, zPg hr (by omega) (by omega), ← hj2, List.getElem?_take, if_pos hj1, List.getElem?_take, if_pos (by omega)]
  have hf' : Hid (fst = min n (room - fr)) := hf;have q8 : fst ≤ n := by omega
  have q9 : fst ≤ room - fr := by omega
  clear hf l1;generalize hcs : zAe ((t.take n).take fst) = cs1 at q2 q3 q5 q6 q7;have hcs' : Hid (zAe ((t.take n).take fst) = cs1) := hcs;clear hcs
  go_region_law (refine step_copy_splice rfl (.tmp 16) (.tmp 25) 111 111 rfl 5 Tryz.underlying111 (by kernel_rfl) _ _ _ _ _ _ rfl rfl g 0 Z 5 hG cs1 q2 (fun _ => ⟨rfl, _, rfl, q7⟩) q3 q6 g w' hB.drew (Nat.le_refl _) ?_; intro w2 hG2 hB2)
  all_goals
   rw [show cs1.length = fst from q5]
   have hbW2 : QB w2 w2 q cq eq lq hq b c e lo hi := ⟨(hB2.block q hqw).trans hb0.atq, hb0.fq, (hB2.block b hbw).trans hb0.atb, hb0.fb, hb0.ne, rfl, rfl, rfl, rfl, fun _ _ _ => rfl⟩;clear c0 c1;have c0 := (hbW2.cell s0).trans hc.c0;have f6 : (fst : Int) ≤ n := by omega
   go_wp2
   have l2 : ((t.take n).drop fst).length = n - fst := by rw [List.length_drop, List.length_take]; omega
   have hff := hf'.out;have p2 : Hid ((zAe ((t.take n).drop fst)).length = Nat.min room (n - fst)) := by
    show _ = min room (n - fst);rw [zAi, l2]; omega
   have p0 : (splice Z 0 cs1).length = n := by rw [length_splice _ _ _ q3, hZl]
   have p3 : fst + (zAe ((t.take n).drop fst)).length ≤ (splice Z 0 cs1).length := by rw [zAi, l2, p0]; omega
   have p6 : ∀ v ∈ zAe ((t.take n).drop fst), v.oneCell' = true := zC2 _;have p7 : Hid (∀ j v, (zAe ((t.take n).drop fst))[j]? = some v → w2.drew.cell? ((⟨b, 0, none⟩ : Addr).add j) = some v) := by
    intro j v hj;obtain ⟨hj1, hj2⟩ := zFn hj;rw [l2] at hj1;have hadd : (⟨b, 0, none⟩ : Addr).add j = ⟨b, j, none⟩ := by unfold Addr.add; split <;> simp_all
    rw [hadd];show w2.cell? _ = _;have hfr : fst = room - fr := by omega
    rw [hbW2.buf.cell, zS9 hr (by omega), ← hj2, List.getElem?_drop, List.getElem?_take, if_pos (by omega), hfr]
   have p8 : Hid (0 < (zAe ((t.take n).drop fst)).length → ¬ n = fst) := by
    intro h; rw [zAi, l2] at h; omega
   clear hff l2;generalize hcs2 : zAe ((t.take n).drop fst) = cs2 at p2 p3 p6 p7 p8;have hcs2' : Hid (zAe ((t.take n).drop fst) = cs2) := hcs2;clear hcs2
   go_region_law (refine step_copy_splice rfl (.tmp 29) (.tmp 33) 111 111 rfl 5 Tryz.underlying111 (by kernel_rfl) _ _ _ _ _ _ rfl rfl g fst (splice Z 0 cs1) 5 hG2 cs2 p2 (fun h => ⟨by rw [if_neg (p8 h)], _, rfl, p7⟩) p3 p6 g w' hB2.drew (Nat.le_refl _) ?_; intro w3 hG3 hB3)
  all_goals
   obtain rfl : zAe ((t.take n).take fst) = cs1 := hcs';obtain rfl : zAe ((t.take n).drop fst) = cs2 := hcs2';have hrow : Hid (w3.heap[g]? = some (.cells (zAe (t.take n)).toArray 5 (0, 0))) := by
    have hG3o := hG3.out;have hL : splice (splice Z 0 (zAe ((t.take n).take fst))) fst (zAe ((t.take n).drop fst)) = zAe (t.take n) := by
     have a1 : (zAe ((t.take n).take fst)).length = fst := q5.out;have a2 : (zAe ((t.take n).drop fst)).length = n - fst := by rw [zAi, List.length_drop, List.length_take]; omega
     have a3 : zAe (t.take n) = zAe ((t.take n).take fst) ++ zAe ((t.take n).drop fst) := by
      unfold zAe; rw [← List.map_append, List.take_append_drop]
     rw [a3];unfold splice;rw [a1, a2, show fst + (n - fst) = n by omega]
     simp only [List.take_zero, List.nil_append, Nat.zero_add, List.drop_append, a1];rw [List.take_append_of_le_length (by omega), List.take_of_length_le (by omega)]
     have a4 : (zAe ((t.take n).take fst)).drop n = [] := List.drop_eq_nil_of_le (by omega)
     have a5 : (Z.drop fst).drop (n - fst) = [] := List.drop_eq_nil_of_le (by rw [List.length_drop]; omega)
     rw [a4, a5]; simp
    rw [hL] at hG3o;exact hG3o
   clear c0 hG3 hG2 q2 q3 q5 q6 q7 p2 p3 p6 p7 p8;generalize (if n = fst then some (⟨g, 0, none⟩ : Addr) else some ⟨g, fst, none⟩) = dp
   go_wp2
   have hl5 : (t.take n).length = n := by rw [List.length_take]; omega
   rw [zLu (P := Tryz.prog) w3 111 9 5 Tryz.underlying111 Tryz.underlying5 Tryz.underlying9 g n n (t.take n) hl5 5 (0, 0) hrow];simp only [Result.andThen];rw [Oper.upon_value]
   go_wp2
   go_ret
   have hnn : t.take n = t.take most.toNat := by
    have hq := hn'.out;by_cases h : most.toNat ≤ t.length
    ·rw [show n = most.toNat by omega]
    ·rw [List.take_of_length_le (by omega), List.take_of_length_le (by omega)]
   exact ⟨by rw [← hnn]; rfl, by rw [hg]; exact hB3⟩
set_option maxRecDepth 100000 in
set_option maxHeartbeats 1000000 in
theorem zWs (t : List UInt8) (most : Int) (q s0 b room fr : Nat) (w : World) {cq : List Value} {eq : TypeId} {lq hq : Nat} {c : List Value} {e : TypeId} {lo hi : Nat} (hb0 : QB w w q cq eq lq hq b c e lo hi) (hc : QC cq s0 b room fr t.length) (hr : RingQ c room fr t) :
  Calls Tryz.prog 103 #[.pointer (some ⟨q, s0, none⟩), .int .i64 most] w fun ex w' => ex = .returned (.string (S (t.take most.toNat))) ∧ ∃ w1, Below w.heap.size w w1 ∧
   QB w1 w' q ((cq.set (s0 + 1) (.int .i64 (((fr + (t.take most.toNat).length) % room : Nat) : Int))).set (s0 + 2) (.int .i64 (((t.drop most.toNat).length : Nat) : Int))) eq lq hq b c e lo hi := by
 have h1 := hr.r1;have h2 := hr.r2;have h3 := hr.f0;have h4 := hr.n;have hbw : b < w.heap.size := (Array.getElem?_eq_some_iff.1 hb0.atb).1;have hqw : q < w.heap.size := (Array.getElem?_eq_some_iff.1 hb0.atq).1;have hpk := xDd t most q s0 b room fr w hb0 hc hr;have hpl : (t.take most.toNat).length ≤ t.length := by rw [List.length_take]; omega
 have hdl : (t.drop most.toNat).length = t.length - (t.take most.toNat).length := by rw [List.length_drop, List.length_take]; omega
 rw [hdl];clear hdl;generalize t.take most.toNat = p at hpk hpl
 go_enter Tryz.func103, Tryz.ntmps103
 go_wp2_with (go_at_call 134; refine hpk.mono ?_)
 rintro ex w1 ⟨rfl, hB⟩
 have hbW : QB w1 w1 q cq eq lq hq b c e lo hi := ⟨(hB.block q hqw).trans hb0.atq, hb0.fq, (hB.block b hbw).trans hb0.atb, hb0.fb, hb0.ne, rfl, rfl, rfl, rfl, fun _ _ _ => rfl⟩;have c0 := (hbW.cell s0).trans hc.c0;have c1 := (hbW.cell (s0 + 1)).trans hc.c1;have c2 := (hbW.cell (s0 + 2)).trans hc.c2;have g1 : w1.frozen? ⟨q, s0 + 1, none⟩ = false := hbW.bufq.nf (by have := hc.lt; omega)
 have g2 : w1.frozen? ⟨q, s0 + 2, none⟩ = false := hbW.bufq.nf hc.lt;have k1 : IntKind.i64.wrap ((fr : Int) + p.length) = (fr : Int) + p.length := Ab.i64wrap (by omega) (by omega)
 have k2 : IntKind.i64.wrap ((t.length : Int) - p.length) = (t.length : Int) - p.length := Ab.i64wrap (by omega) (by omega)
 have k3 : (room : Int) ≠ 0 := by omega
 have hp' : Hid (p.length ≤ t.length) := hpl;clear hpl
 go_wp2
 ·go_region
  go_wp2
  go_ret
  have hq := hp'.out;refine ⟨rfl, w1, hB, ?_⟩;have a1 := hbW.drew.ofq (hbW.drew.bufq.setCell (s0 + 1) (.int .i64 (((fr : Int) + p.length) % room)));have a2 := a1.ofq (a1.bufq.setCell (s0 + 2) (.int .i64 ((t.length : Int) - p.length)));rw [Int.natCast_emod, Int.natCast_add, show ((t.length - p.length : Nat) : Int) = (t.length : Int) - p.length by omega]
  exact a2
 ·have hz : (!p.isEmpty) = false := by assumption
  go_ret
  have hp : p = [] := by simpa using hz
  subst hp;refine ⟨rfl, w1, hB, ?_⟩;have b1 : cq.set (s0 + 1) (.int .i64 (((fr + ([] : List UInt8).length) % room : Nat) : Int)) = cq := by
   show cq.set (s0 + 1) (.int .i64 (((fr + 0) % room : Nat) : Int)) = cq;rw [show (fr + 0) % room = fr from Nat.mod_eq_of_lt h3]
   exact set_self hc.c1
  rw [b1];show QB w1 w1 q (cq.set (s0 + 2) (.int .i64 ((t.length : Nat) : Int))) eq lq hq b c e lo hi;rw [set_self hc.c2];exact hbW
theorem zZP (t : List UInt8) (q s0 b room fr : Nat) (w : World) {cq : List Value} {eq : TypeId} {lq hq : Nat} {c : List Value} {e : TypeId} {lo hi : Nat} (hb0 : QB w w q cq eq lq hq b c e lo hi) (hc : QC cq s0 b room fr t.length) (hr : RingQ c room fr t) :
  Calls Tryz.prog 67 #[.pointer (some ⟨q, s0, none⟩)] w fun ex w' => ex = .returned (.int .i64 (t.length : Int)) ∧ ∃ w1, Below w.heap.size w w1 ∧
   QB w1 w' q ((cq.set (s0 + 1) (.int .i64 (((fr + t.length) % room : Nat) : Int))).set (s0 + 2) (.int .i64 0)) eq lq hq b c e lo hi := by
 have c2 := (hb0.cell (s0 + 2)).trans hc.c2;have hnx := zWs t t.length q s0 b room fr w hb0 hc hr;rw [Int.toNat_natCast, List.take_length, List.drop_length] at hnx
 go_enter Tryz.func67, Tryz.ntmps67
 go_wp2_with (go_at_call 35; refine (xBi q s0 t.length w c2).mono ?_)
 rintro ex w' ⟨rfl, rfl⟩
 go_wp2_with (go_at_call 103; refine hnx.mono ?_)
 rintro ex w2 ⟨rfl, w1, hB, hQ⟩
 go_wp2
 go_ret
 exact ⟨rfl, w1, hB, hQ⟩
set_option maxRecDepth 100000 in
theorem xFJ (room : Nat) (h1 : 1 ≤ room) (h2 : room ≤ 4096) (w : World) : Calls Tryz.prog 46 #[.int .i64 (room : Int)] w fun e w' => ∃ (c : List Value) (e1 e2 : TypeId), c.length = room ∧ e = .returned (.pointer (some ⟨w.heap.size + 1, 0, none⟩)) ∧
  w' = (w.alloc (.cells c.toArray e1)).alloc (.cells #[.slice (some ⟨w.heap.size, 0, none⟩) room room, .int .i64 0, .int .i64 0] e2) := by
 go_enter Tryz.func46, Tryz.ntmps46
 have e1 : max 1 (min (room : Int) 4096) = (room : Int) := by omega
 go_wp2
 rw [xDj (P := Tryz.prog) 111 5 (.int .u8 0) 1 Tryz.underlying111 xDq rfl room room (Nat.le_refl _) (by decide) (by omega)]
 simp only [Result.andThen];rw [Oper.upon_value];obtain ⟨Z, hZ, hZl⟩ : ∃ Z : List Value, madeCells #[.int .u8 0] room = Z.toArray ∧ Z.length = room := ⟨(madeCells #[.int .u8 0] room).toList, by simp, by rw [Array.length_toList]; exact size_madeCells _ _⟩
 rw [hZ];clear hZ
 go_wp2
 go_ret
 exact ⟨Z, _, _, hZl, rfl, rfl⟩
end Go.Proofs.YtenkabjkgngcdaaGreat
