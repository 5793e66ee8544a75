import Derived.Test.YtenkabjkgngcdaaGreatKa8
set_option linter.unusedVariables false
set_option linter.unusedSimpArgs false
set_option linter.unusedSectionVars false
namespace Go.Proofs.YtenkabjkgngcdaaGreat
open Go Go.RowKit
theorem zFY {P : Program} (g o : Nat) (t : TypeId) (lo hi : Nat) : ∀ (vs : List Value) (i : Nat) (cur : Array Value) (w : World), w.heap[g]? = some (.cells cur t (lo, hi)) → (cur.size ≤ lo ∨ hi ≤ lo) → o + i + vs.length ≤ cur.size → (∀ v ∈ vs, v.oneCell' = true) →
  (storeCells ⟨g, o, none⟩ vs i).run P w = .ok () (w.setRow g (cur.toList.take (o + i) ++ vs ++ cur.toList.drop (o + i + vs.length)).toArray)
 | [], i, cur, w, hg, _, _, _ => by
  simp only [storeCells, List.append_nil, List.length_nil, Nat.add_zero, List.take_append_drop, Array.toArray_toList];rw [setRow_self w g cur t (lo, hi) hg];rfl
 | v :: rest, i, cur, w, hg, hf, hl, h1 => by
  have hi : o + i < cur.size := by simp at hl; omega
  have hadd : (⟨g, o, none⟩ : Addr).add i = ⟨g, o + i, none⟩ := by unfold Addr.add; split <;> simp_all
  have hcell : w.cell? ⟨g, o + i, none⟩ = some cur[o + i] := by simp [World.cell?, hg, hi]
  have hfro : w.frozen? ⟨g, o + i, none⟩ = false := zLk hg hf hi;have hst : (store ((⟨g, o, none⟩ : Addr).add i) v).run P w = .ok () (w.setRow g (cur.setIfInBounds (o + i) v)) := by
   rw [hadd, run_store P w _ v _ (h1 v (by simp)), hcell]
   simp [hfro, setCell_eq_setRow w g (o + i) cur t _ v hg]
  have ih := zFY (P := P) g o t _ _ rest (i + 1) (cur.setIfInBounds (o + i) v) (w.setRow g (cur.setIfInBounds (o + i) v)) (setRow_heap w g cur _ t _ hg) (by simpa using hf) (by simp at hl ⊢; omega) (fun x hx => h1 x (by simp [hx]))
  simp only [storeCells, Sem.run_bind, hst, Result.andThen_ok, ih, setRow_setRow];congr 3;have e := list_seg_step cur.toList (o + i) v rest (by simp at hl ⊢; omega)
  simpa [Array.toList_setIfInBounds, Nat.add_assoc] using e
theorem zHF {P : Program} (w : World) (dT sT ty elem : TypeId) (g o dLen dCap : Nat) (s : ByteArray) (cur : Array Value) (t : TypeId) (lo hi : Nat)
  (hu : P.underlying dT = some (.slice elem)) (hs : (P.info? elem).map (·.size) = some 1) (hg : w.heap[g]? = some (.cells cur t (lo, hi))) (hf : cur.size ≤ lo ∨ hi ≤ lo)
  (cs : List Value) (hcs : cs = (s.data.toList.map fun b => Value.int .u8 (b.toNat : Int)).take (Nat.min s.size dLen)) (hn : cs.length = Nat.min s.size dLen) (hfit : o + cs.length ≤ cur.size) :
  (Builtin.copy_ #[dT, sT] ty #[.slice (some ⟨g, o, none⟩) dLen dCap, .string s]).run P w = .ok (goInt cs.length) (w.setRow g (splice cur.toList o cs).toArray) := by
 have h1 : ∀ v ∈ cs, v.oneCell' = true := by
  intro v hv;rw [hcs] at hv;have := List.mem_of_mem_take hv;simp only [List.mem_map] at this;obtain ⟨b, _, rfl⟩ := this;rfl
 have hst := zFY (P := P) g o t lo hi cs 0 cur w hg hf (by simpa using hfit) h1
 cases hq : P.info? elem with
 | none => simp [hq] at hs
 | some i =>
  simp [Builtin.copy_, run_underlying hu, Builtin.lenOf, Builtin.firstCells, sizeOf, typeInfo, hq, ← hcs];rw [hst];simp [Result.andThen, splice, hn]
theorem zEb {P : Program} {ops : Array Oper} {o : Oper} {a : Act} {w : World} {K : Act → World → Prop} {Q : Exit → Act → World → Prop} {E : Prop} (hgd : o.guard = none) (d s : Operand) (dT sT : TypeId)
  (ho : o.op = .call { callee := .builtin .copy, args := #[d, s], argTypes := #[dT, sT] }) (elem : TypeId) (hu : P.underlying dT = some (.slice elem)) (hsz : (P.info? elem).map (·.size) = some 1)
  (g off dLen dCap : Nat) (str : ByteArray) (hd : a.eval d = .slice (some ⟨g, off, none⟩) dLen dCap) (hs : a.eval s = .string str)
  (w0 : World) (cur : List Value) (t : TypeId) (lo hi : Nat) (hb : BufAt w0 w g cur t lo hi) (cs : List Value) (hcs : cs = (str.data.toList.map fun b => Value.int .u8 (b.toNat : Int)).take (Nat.min str.size dLen)) (hn : cs.length = Nat.min str.size dLen) (hfit : off + cs.length ≤ cur.length)
  (h : ∀ w', BufAt w0 w' g (splice cur off cs) t lo hi → K (a.put o.dst (goInt cs.length)) w') :
  if Region.wanted o (yielded ops a.tmps) = true then Oper.wp P o a w K Q else E := by
 have hw : Region.wanted o (yielded ops a.tmps) = true := by simp [Region.wanted, hgd]
 rw [if_pos hw];have hrun := zHF (P := P) w dT sT o.type elem g off dLen dCap str cur.toArray t lo hi hu hsz hb.at_ (by simpa using hb.free) cs hcs hn (by simpa using hfit)
 unfold Oper.wp;simp [execOp, ho, resolve, invoke, builtin, hd, hs, hrun, Result.andThen];exact h _ (hb.row _ (length_splice _ _ _ hfit))
theorem zBy {α : Type} (L : List α) (off : Nat) (cs : List α) (h : off + cs.length ≤ L.length) (x : Nat) : (splice L off cs)[x]? = if off ≤ x ∧ x < off + cs.length then cs[x - off]? else L[x]? := by
 unfold splice;by_cases h1 : x < off
 ·rw [if_neg (by omega), List.getElem?_append_left (by simp; omega), List.getElem?_take, if_pos h1]
 ·rw [List.getElem?_append_right (by simp; omega)]
  have h2 : min off L.length = off := by omega
  simp only [List.length_take, h2];by_cases h3 : x < off + cs.length
  ·rw [if_pos ⟨by omega, h3⟩, List.getElem?_append_left (by omega)]
  ·rw [if_neg (by omega), List.getElem?_append_right (by omega), List.getElem?_drop]
   congr 1; omega
theorem zMd (a r : Nat) (h : a < 2 * r) : a % r = if a < r then a else a - r := by
 split
 ·rename_i h1; exact Nat.mod_eq_of_lt h1
 ·rename_i h1;rw [Nat.mod_eq_sub_mod (by omega), Nat.mod_eq_of_lt (by omega)]
def zAe (l : List UInt8) : List Value := l.map fun b => .int .u8 (b.toNat : Int)
theorem zAi (l : List UInt8) : (zAe l).length = l.length := by simp [zAe]
theorem zYL {c : List Value} {room fr : Nat} {t : List UInt8} (h : RingIs c room fr t) (p : List UInt8) (hp : t.length + p.length ≤ room) (at_ first : Nat) (ha : at_ = (fr + t.length) % room) (hf : first = min p.length (room - at_)) :
  RingIs ((splice (splice c at_ (zAe (p.take first))) 0 (zAe (p.drop first))).set 4097 (.int .i64 ((t.length : Int) + p.length))) room fr (t ++ p) := by
 have hr1 := h.r1;have hr2 := h.r2;have hfr := h.f0;have hl := h.len;have hat : at_ < room := by rw [ha]; exact Nat.mod_lt _ hr1
 have l1 : (zAe (p.take first)).length = first := by rw [zAi, List.length_take]; omega
 have l2 : (zAe (p.drop first)).length = p.length - first := by rw [zAi, List.length_drop]
 have f1 : at_ + (zAe (p.take first)).length ≤ c.length := by omega
 have f2 : 0 + (zAe (p.drop first)).length ≤ (splice c at_ (zAe (p.take first))).length := by rw [length_splice _ _ _ f1]; omega
 have hg : ∀ x, x ≠ 4097 → ((splice (splice c at_ (zAe (p.take first))) 0 (zAe (p.drop first))).set 4097 (.int .i64 ((t.length : Int) + p.length)))[x]? =
   if x < p.length - first then (zAe (p.drop first))[x]? else if at_ ≤ x ∧ x < at_ + first then (zAe (p.take first))[x - at_]? else c[x]? := by
  intro x hx;rw [List.getElem?_set_ne (Ne.symm hx), zBy _ _ _ f2, zBy _ _ _ f1, l1, l2];simp only [Nat.zero_add, Nat.zero_le, true_and, Nat.sub_zero]
 refine ⟨?_, hr1, hr2, hfr, by simp; omega, ?_, ?_, ?_, ?_, fun i hi => ?_⟩
 ·rw [List.length_set, length_splice _ _ _ f2, length_splice _ _ _ f1]; exact hl
 ·rw [hg _ (by decide), if_neg (by omega), if_neg (by omega)]; exact h.c0
 ·rw [List.getElem?_set_self (by rw [length_splice _ _ _ f2, length_splice _ _ _ f1]; omega)]; simp
 ·rw [hg _ (by decide), if_neg (by omega), if_neg (by omega)]; exact h.c2
 ·rw [hg _ (by decide), if_neg (by omega), if_neg (by omega)]; exact h.c3
 ·have hi' : i < t.length + p.length := by simpa using hi
  have hx : (fr + i) % room < room := Nat.mod_lt _ hr1;rw [hg _ (by omega)]
  have e1 := zMd (fr + i) room (by omega)
  have e2 := zMd (fr + t.length) room (by omega)
  rw [← ha] at e2;by_cases hit : i < t.length
  ·rw [if_neg (by split at e1 <;> split at e2 <;> omega), if_neg (by split at e1 <;> split at e2 <;> omega), List.getElem?_append_left hit]
   exact h.at_ i hit
  ·rw [List.getElem?_append_right (by omega)]
   by_cases hj : i - t.length < first
   ·have e3 : (fr + i) % room = at_ + (i - t.length) := by split at e1 <;> split at e2 <;> omega
    rw [e3, if_neg (by omega), if_pos (by omega)]
    simp only [zAe, List.getElem?_map, Nat.add_sub_cancel_left, List.getElem?_take, if_pos hj]
   ·have e3 : (fr + i) % room = i - t.length - first := by split at e1 <;> split at e2 <;> omega
    rw [e3, if_pos (by omega)]
    simp only [zAe, List.getElem?_map, List.getElem?_drop];congr 2; omega
set_option maxHeartbeats 1000000 in
theorem xFC (s t : List UInt8) (b room fr : Nat) (w : World) (c : List Value) (e : TypeId) (lo hi : Nat) (hb : BufAt w w b c e lo hi) (hr : RingIs c room fr t) :
  Calls Tryz.prog 131 #[.pointer (some ⟨b, 0, none⟩), .string (S s)] w fun ex w' => ex = .returned (.int .i64 (min s.length (room - t.length) : Nat)) ∧ ∃ c', BufAt w w' b c' e lo hi ∧ RingIs c' room fr (t ++ s.take (room - t.length)) := by
 have c1 := (hb.cell 4096).trans hr.c0;have c2 := (hb.cell 4097).trans hr.c1;have c3 := (hb.cell 4098).trans hr.c2;have h1 := hr.r1;have h2 := hr.r2;have h3 := hr.f0;have h4 := hr.n
 go_enter Tryz.func131, Tryz.ntmps131
 go_wp2_with (go_at_call 147; refine (Ab.freeB_w b room t.length w h4 h2 c2 c3).mono ?_)
 rintro ex w' ⟨rfl, rfl⟩
 go_wp2
 ·rename_i hz
  go_ret
  have h0 : min (s.length : Int) ((room : Int) - t.length) = 0 := by simpa using hz
  have h5 : min s.length (room - t.length) = 0 := by omega
  rw [h5];refine ⟨rfl, c, hb.drew, ?_⟩;have h6 : t ++ s.take (room - t.length) = t := by
   have : s.take (room - t.length) = [] := List.eq_nil_of_length_eq_zero (by rw [List.length_take]; omega)
   rw [this, List.append_nil]
  rw [h6];exact hr
 ·have hz : (min (s.length : Int) ((room : Int) - t.length) == 0) = false := by assumption
  have hpos : 0 < min s.length (room - t.length) := by
   rcases Nat.eq_zero_or_pos (min s.length (room - t.length)) with h0 | h0
   ·exfalso;have : min (s.length : Int) ((room : Int) - t.length) = 0 := by omega
    rw [this] at hz;cases hz
   ·exact h0
  clear hz;have hne : (room : Int) ≠ 0 := by omega
  go_region
  go_wp2
  have e1 : min (s.length : Int) ((room : Int) - t.length) = ((min s.length (room - t.length) : Nat) : Int) := by omega
  have e2 : ((fr : Int) + t.length) % room = (((fr + t.length) % room : Nat) : Int) := by rw [Int.natCast_emod, Int.natCast_add]
  have hat : (fr + t.length) % room < room := Nat.mod_lt _ h1;simp only [e1, e2];obtain ⟨k, hk⟩ : ∃ k, k = min s.length (room - t.length) := ⟨_, rfl⟩;obtain ⟨at_, ha⟩ : ∃ a, a = (fr + t.length) % room := ⟨_, rfl⟩;rw [← hk, ← ha];rw [← ha] at hat;have hk0 : 0 < k := by rw [hk]; exact hpos
  clear hpos;have hks : k ≤ s.length := by omega
  have hkr : t.length + k ≤ room := by omega
  clear e1 e2;have hk' : Hid (k = min s.length (room - t.length)) := hk;have ha' : Hid (at_ = (fr + t.length) % room) := ha;clear hk ha;have f1 : (at_ : Int) ≤ room := by omega
  have f2 : (room : Int) ≤ 4096 := by omega
  have f3 : at_ ≤ room := by omega
  have f4 : (k : Int) ≤ s.length := by omega
  have f5 : 4096 ≠ at_ := by omega
  obtain ⟨fst, hf⟩ : ∃ x, x = min k (room - at_) := ⟨_, rfl⟩;have hk2 : (s.take k).length = k := by rw [List.length_take]; omega
  have q1 : Hid (zAe ((s.take k).take fst) = ((S (s.take k)).data.toList.map fun b => Value.int .u8 (b.toNat : Int)).take (Nat.min (S (s.take k)).size (room - at_))) := by
   show _ = _;have : Nat.min (S (s.take k)).size (room - at_) = fst := by rw [hf, ← hk2, hk2]; exact congrArg (min · _) hk2
   rw [this];show ((s.take k).take fst).map _ = _;rw [List.map_take];rfl
  have q2 : Hid ((zAe ((s.take k).take fst)).length = Nat.min (S (s.take k)).size (room - at_)) := by
   show _ = _;rw [zAi, List.length_take, hk2, hf];have : (S (s.take k)).size = k := hk2;rw [this];show min (min k (room - at_)) k = min k (room - at_);omega
  have q3 : at_ + (zAe ((s.take k).take fst)).length ≤ c.length := by rw [zAi, List.length_take, hk2, hr.len]; omega
  have q4 : fst ≤ k := by omega
  have q5 : Hid ((zAe ((s.take k).take fst)).length = fst) := by
   show _ = _;rw [zAi, List.length_take, hk2]; omega
  have hf' : Hid (fst = min k (room - at_)) := hf;clear hf;generalize hcs : zAe ((s.take k).take fst) = cs1 at q1 q2 q3 q5;have hcs' : Hid (zAe ((s.take k).take fst) = cs1) := hcs;clear hcs hk2
  go_region_law (refine zEb rfl (.tmp 37) (.tmp 40) 111 9 rfl 5 Tryz.underlying111 (by kernel_rfl) b at_ _ _ _ rfl rfl w c e lo hi hb.drew.drew.drew cs1 q1 q2 q3 ?_; intro w2 hb2)
  have q6 : at_ + cs1.length ≤ room := by have := q5.out; have := hf'.out; omega
  have d1 : w2.cell? ⟨b, 4096, none⟩ = some (.int .i64 fr) := by rw [hb2.cell, zBy _ _ _ q3, if_neg (by omega)]; exact hr.c0
  have d2 : w2.cell? ⟨b, 4097, none⟩ = some (.int .i64 t.length) := by rw [hb2.cell, zBy _ _ _ q3, if_neg (by omega)]; exact hr.c1
  have d3 : w2.cell? ⟨b, 4098, none⟩ = some (.int .i64 room) := by rw [hb2.cell, zBy _ _ _ q3, if_neg (by omega)]; exact hr.c2
  rw [show cs1.length = fst from q5]
  have f6 : (fst : Int) ≤ k := by omega
  clear c1 c2 c3
  go_wp2
  have hk2 : ((s.drop fst).take (k - fst)).length = k - fst := by rw [List.length_take, List.length_drop]; omega
  have p1 : Hid (zAe ((s.drop fst).take (k - fst)) = ((S ((s.drop fst).take (k - fst))).data.toList.map fun b => Value.int .u8 (b.toNat : Int)).take (Nat.min (S ((s.drop fst).take (k - fst))).size room)) := by
   refine (List.take_of_length_le ?_ : List.take _ _ = _).symm;show (zAe ((s.drop fst).take (k - fst))).length ≤ min ((s.drop fst).take (k - fst)).length room;rw [zAi];omega
  have p2 : Hid ((zAe ((s.drop fst).take (k - fst))).length = Nat.min (S ((s.drop fst).take (k - fst))).size room) := by
   show _ = min ((s.drop fst).take (k - fst)).length room;rw [zAi];omega
  have p3 : 0 + (zAe ((s.drop fst).take (k - fst))).length ≤ (splice c at_ cs1).length := by rw [zAi, length_splice _ _ _ q3, hr.len]; omega
  have p5 : (zAe ((s.drop fst).take (k - fst))).length ≤ room := by rw [zAi]; omega
  generalize hcs : zAe ((s.drop fst).take (k - fst)) = cs2 at p1 p2 p3 p5;have hcs2 : Hid (zAe ((s.drop fst).take (k - fst)) = cs2) := hcs;clear hcs hk2
  go_region_law (refine zEb rfl (.tmp 49) (.tmp 53) 111 9 rfl 5 Tryz.underlying111 (by kernel_rfl) b 0 _ _ _ rfl rfl w (splice c at_ cs1) e lo hi hb2.drew cs2 p1 p2 p3 ?_; intro w3 hb3)
  have g1 : w3.cell? ⟨b, 4097, none⟩ = some (.int .i64 t.length) := by rw [hb3.cell, zBy _ _ _ p3, if_neg (by omega), zBy _ _ _ q3, if_neg (by omega)]; exact hr.c1
  have g2 : w3.frozen? ⟨b, 4097, none⟩ = false := hb3.nf (by rw [length_splice _ _ _ p3, length_splice _ _ _ q3, hr.len]; decide)
  have hw : IntKind.i64.wrap ((t.length : Int) + k) = (t.length : Int) + k := Ab.i64wrap (by omega) (by omega)
  go_wp2
  go_ret
  obtain rfl : zAe ((s.take k).take fst) = cs1 := hcs';obtain rfl : zAe ((s.drop fst).take (k - fst)) = cs2 := hcs2;have hk := hk'.out;refine ⟨by rw [← hk]; rfl, _, hb3.setCell _ _, ?_⟩
  have hp : (s.take k).length = k := by rw [List.length_take]; omega
  have hx := zYL hr (s.take k) (by omega) at_ fst ha'.out (by rw [hp]; exact hf'.out)
  rw [hp, List.drop_take] at hx;have hy : s.take (room - t.length) = s.take k := by
   by_cases h : room - t.length ≤ s.length
   ·rw [show k = room - t.length by omega]
   ·rw [List.take_of_length_le (by omega), List.take_of_length_le (by omega)]
  rw [hy];exact hx
end Go.Proofs.YtenkabjkgngcdaaGreat
