import Derived.RangeFuncNested
import Derived.RangeFuncBound
import Derived.RangeFuncCalls
import Derived.RangeFuncLeaves
import Derived.RangeFuncBox
import Derived.Shelf.Abstract
import Derived.Shelf.RegionOpen
import Derived.WalkKit
import Derived.OwnWalkIn
import Derived.TacticsInMore
import Derived.LoopNIn
import Derived.LoopIn
import Derived.Maps.AppendAt
import Derived.Test.YtenkabjkgngcdaaGreatKa0
import Derived.Test.YtenkabjkgngcdaaGreatKc1
set_option linter.unusedVariables false
set_option linter.unusedSimpArgs false
set_option linter.unusedSectionVars false
namespace Go.Proofs.YtenkabjkgngcdaaGreat
open Go.RowKit Go.Shelf
attribute [local go_sem] Oper.semAt_some
def zAx (k : Nat) : Nat → UInt8 → List UInt8 → List (List UInt8)
 | 0, h, m => [b8 (bits BinOp.or IntKind.u8 h.toNat 64) :: m]
 | f + 1, h, m => bif Nat.blt k m.length then (h :: m.take k) :: zAx k f 1 (m.drop k) else [b8 (bits BinOp.or IntKind.u8 h.toNat 64) :: m]
theorem zEK {k : Nat} (hk : 1 ≤ k) : ∀ (f : Nat) (h : UInt8) (m : List UInt8), m.length ≤ f → zAx k f h m = zAx k m.length h m
 | 0, h, [], _ => rfl
 | f + 1, h, m, hm => by
  cases hb : Nat.blt k m.length with
  | false =>
   show (bif Nat.blt k m.length then _ else _) = _
   rw [hb];cases m with
   | nil => rfl
   | cons a r =>
    show _ = (bif Nat.blt k (a :: r).length then _ else _)
    rw [hb];rfl
  | true =>
   have hlt : k < m.length := by rwa [Nat.blt_eq] at hb
   cases m with
   | nil => simp at hlt
   | cons a r =>
    show (bif Nat.blt k (a :: r).length then _ else _) = (bif Nat.blt k (a :: r).length then _ else _)
    rw [hb];have l1 : ((a :: r).drop k).length ≤ f := by simp at hm ⊢; omega
    have l2 : ((a :: r).drop k).length ≤ r.length := by simp; omega
    exact congrArg _ ((zEK hk f 1 _ l1).trans (zEK hk r.length 1 _ l2).symm)
termination_by f => f
decreasing_by
 ·omega
 ·simp at hm; omega
theorem zNO {k : Nat} (hk : 1 ≤ k) {h : UInt8} {m : List UInt8} (hc : k < m.length) : zAx k m.length h m = (h :: m.take k) :: zAx k (m.drop k).length 1 (m.drop k) := by
 have hb : Nat.blt k m.length = true := by rwa [Nat.blt_eq]
 cases m with
 | nil => simp at hc
 | cons a r =>
  show (bif Nat.blt k (a :: r).length then _ else _) = _
  rw [hb];exact congrArg _ (zEK hk r.length 1 _ (by simp; omega))
def zZx (w : World) (b : Nat) : Nat := match w.cell? ⟨b, 0, none⟩ with
 | some (.string s) => s.size
 | _ => 0
@[local go_sem] theorem xE6 {P : Program} (w : World) (src dst e : TypeId) (hs : P.underlying src = some (.slice e)) (he : P.underlying e = some (.int .u8)) (hd : P.underlying dst = some .string) (c : Nat) (x : Int) :
  (convert src dst (.slice (some ⟨w.heap.size, 0, none⟩) 1 c)).run P (w.alloc (.cells #[.int .u8 x] e)).drew = .ok (.string (S [b8 x])) (w.alloc (.cells #[.int .u8 x] e)).drew := by
 have := run_convert_bytes_arg (P := P) (w.alloc (.cells #[.int .u8 x] e)).drew src e hs he w.heap.size 0 1 c [x] rfl (fun i hi => by
  obtain rfl : i = 0 := by simpa using hi
  show (w.alloc (.cells #[.int .u8 x] e)).cell? ⟨w.heap.size, 0, none⟩ = _;exact cell_one_new w (.int .u8 x) e 0 _ rfl) dst hd
 rw [this]; rfl
set_option maxRecDepth 100000 in
set_option maxHeartbeats 6000000 in
theorem xGc (F : Fence) (n : Nat) (h6 : F.fn 149) (hro : F.round = none) (hn : 1 ≤ n) (B l Bm Bs : Nat) (m : List UInt8) (k : Nat) (hk1 : 1 ≤ k) (hk2 : k ≤ 127) (hm : m.length < 100000) (I : List (List UInt8) → World → Prop) (X : World → Prop)
  (W : World) (hX : xIF B X) (hBB : Bm < B) (hBs' : Bs < B) (hne : Bm ≠ Bs) (hnew : ∀ xs W o, I xs W → I xs (W.alloc o)) (hdrew : ∀ xs W, I xs W → I xs W.drew) (hset : ∀ xs W v, I xs W → I xs (W.setCell ⟨Bm, 0, none⟩ v))
  (hY : ∀ pre x W, I pre W → X W → pre.length < m.length + 1 → YieldAt F (n - 1) Tryz.prog l #[.string (S x)] W fun e W' => e = .returned (.bool true) ∧ I (pre ++ [x]) W' ∧ X W' ∧ (W'.heap[Bm]? = W.heap[Bm]? ∧ W'.heap[Bs]? = W.heap[Bs]?))
  (hBm : Boxed W Bm 9 (.string (S m))) (hBs : Boxed W Bs 3 (.int .i64 k)) (h0 : I [] W) (hx0 : X W) :
  CallsIn F n Tryz.prog 149 #[.func (.yield l) #[] #[], .pointer (some ⟨Bm, 0, none⟩), .pointer (some ⟨Bs, 0, none⟩)] W fun e W' => (∃ v, e = .returned v) ∧
   (∃ ys, ys = zAx k m.length 129 m ∧ I ys W' ∧ X W') := by
 obtain ⟨Ffn, Fdp, Fal, Fro⟩ := F;obtain rfl : Fro = none := hro;have hro : (Fence.mk Ffn Fdp Fal none).round = none := rfl;refine callsIn_of_wp Tryz.func149 rfl h6 ?_ hro;simp only [Tryz.ntmps149, List.size_toArray, List.length_cons, List.length_nil, Nat.reduceAdd, Nat.reduceSub, Array.replicate_succ, Array.replicate_zero, List.push_toArray, List.append_toArray, List.nil_append, List.cons_append]
 gi_wp2
 gi_loopw [4] (fun p wr => ∃ (h : UInt8) (ml : List UInt8) (pre : List (List UInt8)), p = .int .u8 (h.toNat : Int) ∧ ml.length + pre.length ≤ m.length ∧ Boxed wr Bm 9 (.string (S ml)) ∧ Boxed wr Bs 3 (.int .i64 k) ∧ I pre wr ∧ X wr ∧
  Hid (pre ++ zAx k ml.length h ml = zAx k m.length 129 m)) (fun _ wr => zZx wr Bm)
 case atStart => exact ⟨129, m, [], rfl, by simp, hBm, hBs, h0, hx0, Lib.hid rfl⟩
 case round =>
  obtain ⟨h, ml, pre, rfl, hlen, hbm, hbs, hi, hx, hP⟩ := hrel;have cm := hbm.cell;have cs := hbs.cell;have lt : ml.length < 100000 := by omega
  by_cases hc : k < ml.length
  ·have hc' : (k : Int) < ((S ml).size : Int) := by rw [zSs]; omega
   have cm2 := (hbm.alloc (.cells #[.int .u8 (h.toNat : Int)] 5)).cell;have cs2 := (hbs.alloc (.cells #[.int .u8 (h.toNat : Int)] 5)).cell;have hi2 := hdrew _ _ (hnew _ _ (.cells #[.int .u8 (h.toNat : Int)] 5) hi);have hx2 : X (wr.alloc (.cells #[.int .u8 (h.toNat : Int)] 5)).drew := hX (wr.alloc (.cells #[.int .u8 (h.toNat : Int)] 5)) _ ⟨Nat.le_refl _, fun _ _ _ h _ => h⟩ (hX _ _ ((KeepsOthers.alloc wr (.cells #[.int .u8 (h.toNat : Int)] 5)).from B) hx);obtain ⟨fn, tmps, assign, body, hy, hR⟩ := hY pre (b8 (h.toNat : Int) :: ml.take k) _ hi2 hx2 (by omega)
   clear hBm hBs h0 hx0;have bm2 : Boxed (wr.alloc (.cells #[.int .u8 (h.toNat : Int)] 5)).drew Bm 9 (.string (S ml)) := hbm.alloc _;have bs2 : Boxed (wr.alloc (.cells #[.int .u8 (h.toNat : Int)] 5)).drew Bs 3 (.int .i64 k) := hbs.alloc _
   gi_wp2
   refine wpIn_mono (Q := Exit.then (fun a' w' => ∃ t11 t12 t13 t14 t15 t16, a' = { tmps := #[.func (.yield l) #[] #[], .pointer (some ⟨Bm, 0, none⟩), .pointer (some ⟨Bs, 0, none⟩), undef, .int .u8 (h.toNat : Int), .string (S ml), .int .i64 (ml.length : Int), .int .i64 (k : Int), .bool true, .func (.yield l) #[] #[], .int .u8 (h.toNat : Int), t11, t12, t13, t14, t15, t16, .bool true, .bool false, u19, u20, u21, undef, undef, undef, undef, undef, undef, undef, undef], defers := [] } ∧ I (pre ++ [b8 (h.toNat : Int) :: ml.take k]) w' ∧ X w' ∧ w'.heap[Bm]? = (wr.alloc (.cells #[.int .u8 (h.toNat : Int)] 5)).drew.heap[Bm]? ∧ w'.heap[Bs]? = (wr.alloc (.cells #[.int .u8 (h.toNat : Int)] 5)).drew.heap[Bs]?) (fun _ _ _ => False)) ?reg ?aft
   case reg =>
    clear hX hnew hdrew hset hY hi hx hi2 hx2 hlen hne hBB hBs' bm2 bs2 hbm hbs hP
    gi_region_with (refine hR.mono ?_; rintro e W3 ⟨rfl, hi3, hx3, hkm, hks⟩)
    all_goals exact ⟨_, _, _, _, _, _, rfl, hi3, hx3, hkm, hks⟩
   case aft =>
    intro e a' w' hq;obtain rfl : e = .normal := by cases e <;> first | rfl | exact False.elim hq
    obtain ⟨t11, t12, t13, t14, t15, t16, rfl, hi3, hx3, hkm, hks⟩ := hq;have bm3 : Boxed w' Bm 9 (.string (S ml)) := hkm.trans bm2;have bs3 : Boxed w' Bs 3 (.int .i64 k) := hks.trans bs2;have cm3 := bm3.cell;have fm3 := bm3.frozen;have cs3 := bs3.cell;clear hy hR hi2 hx2 hkm hks bm2 bs2 cm cs cm2 cs2 hbs hi hx
    gi_wp2
    gi_region_with fail
    all_goals
     have hdr : List.take (ml.length - k) (List.drop k ml) = List.drop k ml := List.take_of_length_le (by simp)
     have hk0 : KeepsFrom B w' (w'.setCell ⟨Bm, 0, none⟩ (.string (S (List.drop k ml)))) := KeepsFrom.of_grownBy (row := some Bm) (grownBy_setCell' w' Bm _) (fun j e => by cases e; exact hBB)
     have hk3 : KeepsFrom B w' (w'.setCell ⟨Bm, 0, none⟩ (.string (S (List.drop k ml)))).drew := ⟨hk0.size, hk0.same⟩;have i4 := hdrew _ _ (hset _ _ (.string (S (List.drop k ml))) hi3);have b4 : Boxed (w'.setCell ⟨Bm, 0, none⟩ (.string (S (List.drop k ml)))).drew Bm 9 (.string (S (List.drop k ml))) := bm3.set _;have s4 : Boxed (w'.setCell ⟨Bm, 0, none⟩ (.string (S (List.drop k ml)))).drew Bs 3 (.int .i64 k) := bs3.other (Ne.symm hne) _;have m4 : zZx (w'.setCell ⟨Bm, 0, none⟩ (.string (S (List.drop k ml)))).drew Bm < zZx wr Bm := by
      unfold zZx;rw [b4.cell, hbm.cell];simp only [zSs, List.length_drop];omega
     rw [xI5] at i4;have e4 : (pre ++ [h :: ml.take k]) ++ zAx k (ml.drop k).length 1 (ml.drop k) = zAx k m.length 129 m := by
      rw [← hP.out, List.append_assoc, zNO hk1 hc]; rfl
     rw [hdr];exact ⟨⟨_, _, _, _, _, _, _, _, _, _, _, _, _, _, _, _, _, _, ⟨1, ml.drop k, pre ++ [h :: ml.take k], rfl, by simp; omega, b4, s4, i4, hX _ _ hk3 hx3, Lib.hid e4⟩, rfl⟩, m4⟩
  ·have hc' : ¬ ((k : Int) < ((S ml).size : Int)) := by rw [zSs]; omega
   have cm2 := (hbm.alloc (.cells #[.int .u8 (bits BinOp.or IntKind.u8 h.toNat 64)] 5)).cell;have hi2 := hnew _ _ (.cells #[.int .u8 (bits BinOp.or IntKind.u8 h.toNat 64)] 5) hi;have hx2 := hX _ _ ((KeepsOthers.alloc wr (.cells #[.int .u8 (bits BinOp.or IntKind.u8 h.toNat 64)] 5)).from B) hx;obtain ⟨fn, tmps, assign, body, hy, hR⟩ := hY pre (b8 (bits BinOp.or IntKind.u8 h.toNat 64) :: ml) _ hi2 hx2 (by omega)
   have hsum : ¬ (9223372036854775807 < 1 + ml.length) := by omega
   have hsum2 : 1 + ml.length ≤ 9223372036854775807 := by omega
   have hfin : pre ++ [b8 (bits BinOp.or IntKind.u8 h.toNat 64) :: ml] = zAx k m.length 129 m := by
    rw [← hP.out];cases ml with
    | nil => rfl
    | cons a r =>
     show _ = pre ++ (bif Nat.blt k (r.length + 1) then _ else _)
     have : Nat.blt k (r.length + 1) = false := by
      cases hb : Nat.blt k (r.length + 1) with
      | false => rfl
      | true => rw [Nat.blt_eq] at hb; simp at hc; omega
     rw [this]; rfl
   clear hP hBm hBs h0 hx0 hbm hbs hlen
   gi_wp2
   refine hR.mono ?_
   rintro e W3 ⟨rfl, hi3, hx3, _⟩
   gi_wp2
   go_end0
   rw [hfin] at hi3;exact ⟨⟨_, rfl⟩, _, rfl, hi3, hx3⟩
set_option maxHeartbeats 1000000 in
theorem zSR (F : Fence) (n : Nat) (h5 : F.fn 135) (hro : F.round = none) (m : List UInt8) (k : Int) (w : World) :
  CallsIn F n Tryz.prog 135 #[.string (S m), .int .i64 k] w fun e w' => e = .returned (.func (.func 149) #[] #[.pointer (some ⟨w.heap.size, 0, none⟩), .pointer (some ⟨w.heap.size + 1, 0, none⟩)]) ∧ w' = (w.alloc (.cells #[.string (S m)] 9)).alloc (.cells #[.int .i64 k] 3) := by
 refine callsIn_of_wp Tryz.func135 rfl h5 ?_ hro;simp only [Tryz.ntmps135, List.size_toArray, List.length_cons, List.length_nil, Nat.reduceAdd, Nat.reduceSub, Array.replicate_succ, Array.replicate_zero, List.push_toArray, List.append_toArray, List.nil_append, List.cons_append]
 gi_wp2
 go_ret
 exact ⟨by simp, rfl⟩
theorem zXZ {W w1 : World} {n₀ r₀ B : Nat} {t e : TypeId} {size : Nat} {v v' : Value} {k m : Nat} {xs ys : List Value} {tmp : Obj} (hv : Boxed W B t v) (hte : t ≠ e) (hrow : W.ownsRow r₀ e size v k xs) (hr : r₀ ≤ W.heap.size) (hn : n₀ ≤ B) (hnr : n₀ ≤ r₀)
  (hown' : w1.ownsRow r₀ e size v' m ys) (hgrow : (W.alloc tmp).grownBy w1 v.ownBlock) :
  Boxed w1 B t v ∧ Boxed (w1.setCell ⟨B, 0, none⟩ v') B t v' ∧ (w1.setCell ⟨B, 0, none⟩ v').ownsRow r₀ e size v' m ys ∧ KeepsOthers W (w1.setCell ⟨B, 0, none⟩ v') ∧ (∀ j, j < r₀ → j ≠ B → (w1.setCell ⟨B, 0, none⟩ v').heap[j]? = W.heap[j]?) ∧ Below n₀ W (w1.setCell ⟨B, 0, none⟩ v') := by
 have hv1 : Boxed w1 B t v := (hv.alloc tmp).kept hgrow (hv.not_row hte hrow);have far : ∀ j, v.ownBlock = some j → r₀ ≤ j ∧ ∃ o : Obj, (W.alloc tmp).heap[j]? = some o ∧ o.isCells = true := fun j ej => by
  rcases (hrow.alloc tmp).2 with ⟨rfl, _⟩ | ⟨g, cap, cur, rfl, hb, hgb, _⟩
  ·simp [Value.ownBlock] at ej
  ·obtain rfl : g = j := by simpa [Value.ownBlock] using ej
   exact ⟨hb, _, hgb, rfl⟩
 refine ⟨hv1, hv1.set v', hown'.kept (grownBy_setCell' w1 B v') (.inr (hv1.not_row hte hown').symm), ?_, fun j hj hne => ?_, ?_⟩
 ·refine ((KeepsOthers.alloc W tmp).trans (KeepsOthers.of_grownBy hgrow fun j o ej hj => ?_)).trans (KeepsOthers.setCell _ _ _);obtain ⟨_, o', h1, h2⟩ := far j ej;rw [h1] at hj; cases hj; exact h2
 ·refine (Below.heap_setCell w1 _ v' j hne).trans ((hgrow.block j (by simp; omega) fun ej => ?_).trans (Below.heap_alloc W tmp j (by omega)))
  have := (far j ej.symm).1;omega
 ·exact (((Below.refl n₀ W).alloc (by omega) tmp).grown hgrow (by simp; omega) fun j ej => Nat.le_trans hnr (far j ej).1).setCell (p := ⟨B, 0, none⟩) hn v'
theorem zPt {W : World} {b b' : Nat} {e : TypeId} {size : Nat} {v : Value} {n : Nat} {xs : List Value} (h : W.ownsRow b e size v n xs) (hb : b' ≤ b) : W.ownsRow b' e size v n xs := by
 refine ⟨h.1, ?_⟩;rcases h.2 with h0 | ⟨g, cap, cur, h1, h2, h3⟩
 ·exact .inl h0
 ·exact .inr ⟨g, cap, cur, h1, Nat.le_trans hb h2, h3⟩
theorem zWQ : (Tryz.prog.info? 9).map (fun i => (i.zero, i.size, i.bytes)) = some (some (.string (S [])), 1, 16) := by kernel_rfl
def SpI (w : World) (pre : List (List UInt8)) (W : World) : Prop := (∃ v, Boxed W w.heap.size 31 v ∧ W.ownsRow (w.heap.size + 3) 9 1 v pre.length (pre.map fun x => Value.string (S x))) ∧ Below w.heap.size w W ∧ w.heap.size + 3 ≤ W.heap.size
theorem SpI.new {w : World} {pre : List (List UInt8)} {W : World} (o : Obj) : SpI w pre W → SpI w pre (W.alloc o) := fun ⟨⟨v, h1, h2⟩, h3, h4⟩ => ⟨⟨v, h1.alloc o, h2.alloc o⟩, h3.alloc (by omega) o, by simp; omega⟩
theorem SpI.drew {w : World} {pre : List (List UInt8)} {W : World} : SpI w pre W → SpI w pre W.drew := fun ⟨⟨v, h1, h2⟩, h3, h4⟩ => ⟨⟨v, h1, h2.drew⟩, h3.drew, h4⟩
theorem SpI.set {w : World} {pre : List (List UInt8)} {W : World} (v' : Value) : SpI w pre W → SpI w pre (W.setCell ⟨w.heap.size + 1, 0, none⟩ v') := fun ⟨⟨v, h1, h2⟩, h3, h4⟩ =>
 ⟨⟨v, h1.other (by omega) v', ownsRow_setCell_below h2 (by show w.heap.size + 1 < w.heap.size + 3; omega) v'⟩, h3.setCell (p := ⟨w.heap.size + 1, 0, none⟩) (by show w.heap.size ≤ w.heap.size + 1; omega) v', Nat.le_trans h4 (KeepsWalks.setCell W _ v').size⟩
theorem SpI.put {w : World} {pre : List (List UInt8)} {W : World} {l : Nat} {o : Obj} (o' : Obj) (hl : w.heap.size + 3 ≤ l) (ho : W.heap[l]? = some o) (hc : o.isCells = false) : SpI w pre W → SpI w pre (W.putObj l o') := fun ⟨⟨v, h1, h2⟩, h3, h4⟩ =>
 ⟨⟨v, h1.kept (grownBy_putObj' W l o') (by simp; omega), ownsRow_putObj h2 o' ho hc⟩, h3.grown (grownBy_putObj' W l o') (by have := (Array.getElem?_eq_some_iff.1 ho).1; omega) (fun k e => by cases e; omega), by simpa using h4⟩
set_option maxRecDepth 100000 in
set_option maxHeartbeats 2000000 in
theorem zOY (F : Fence) (n : Nat) (h3 : F.fn 107) (h4 : F.fn 135) (h5 : F.fn 149) (hro : F.round = none) (hn : 3 ≤ n) (m : List UInt8) (k : Nat) (hk1 : 1 ≤ k) (hk2 : k ≤ 127) (hm : m.length < 100000) (w : World) :
  CallsIn F n Tryz.prog 107 #[.string (S m), .int .i64 ((k : Int) + 1)] w fun e W' => ∃ v, e = .returned (.tuple #[v, .int .i64 0]) ∧ W'.ownsRow w.heap.size 9 1 v (zAx k m.length 129 m).length ((zAx k m.length 129 m).map fun x => Value.string (S x)) ∧ Below w.heap.size w W' := by
 have h1 : 1 ≤ n := by omega
 obtain ⟨i0, hi, hz0, hz1, hz2⟩ := info_parts zWQ;have hn1 : ¬ (k : Int) + 1 < 2 := by omega
 have hn128 : (k : Int) + 1 ≤ 128 := by omega
 refine callsIn_of_wp_marks Tryz.func107 rfl h3 ?_ hro;simp only [Tryz.ntmps107, List.size_toArray, List.length_cons, List.length_nil, Nat.reduceAdd, Nat.reduceSub, Array.replicate_succ, Array.replicate_zero, List.push_toArray, List.append_toArray, List.nil_append, List.cons_append]
 gi_wp2_with (gi_at_call 135; refine (zSR F (n - 1) h4 hro _ _ _).mono ?_; rintro e w' ⟨rfl, rfl⟩)
 have bO := Boxed.new w 31 (.slice none 0 0);have bM := Boxed.new (w.alloc (.cells #[.slice none 0 0] 31)) 9 (.string (S m));rw [World.size_alloc] at bM;have bN := Boxed.new ((w.alloc (.cells #[.slice none 0 0] 31)).alloc (.cells #[.string (S m)] 9)) 3 (.int .i64 (k : Int));rw [World.size_alloc, World.size_alloc] at bN;have hB0 : Below w.heap.size w (((w.alloc (.cells #[.slice none 0 0] 31)).alloc (.cells #[.string (S m)] 9)).alloc (.cells #[.int .i64 (k : Int)] 3)) := (((Below.refl _ w).alloc (Nat.le_refl _) _).alloc (by simp) _).alloc (by simp; omega) _
 have z0 : ((((w.alloc (.cells #[.slice none 0 0] 31)).alloc (.cells #[.string (S m)] 9)).alloc (.cells #[.int .i64 (k : Int)] 3))).heap.size = w.heap.size + 3 := by simp
 refine zL1 hro h1 (gf := 149) (lb := #[.pointer (some ⟨w.heap.size + 1, 0, none⟩), .pointer (some ⟨w.heap.size + 1 + 1, 0, none⟩)]) rfl h5 (enters_of Tryz.func149 (by kernel_rfl) rfl)
  (encs := fun x : List UInt8 => #[Value.string (S x)]) (fun _ => rfl) (Kp := fun W W' => W'.heap[w.heap.size + 1]? = W.heap[w.heap.size + 1]? ∧ W'.heap[w.heap.size + 1 + 1]? = W.heap[w.heap.size + 1 + 1]?)
  (fun h h' => ⟨h'.1.trans h.1, h'.2.trans h.2⟩) (fun W l o hl => ⟨World.putObj_heap_other (by rw [z0] at hl; omega), World.putObj_heap_other (by rw [z0] at hl; omega)⟩)
  (SpI w) (fun _ _ o h => h.new o) (fun _ _ l o o' h hl ho hc => SpI.put o' (by rw [z0] at hl; exact hl) ho hc h) (fun ys => ys = zAx k m.length 129 m) (m.length + 1)
  (fun l X W1 hb hX hi hx hR => xGc F (n - 1) h5 hro (by omega) _ l (w.heap.size + 1) (w.heap.size + 1 + 1) m k hk1 hk2 hm (SpI w) X W1 hX (by rw [z0]; omega) (by rw [z0]; omega) (by omega) (fun _ _ o h => h.new o) (fun _ _ h => h.drew) (fun _ _ v h => h.set v) hR
   ((hb.block _ (by rw [z0]; omega)).trans (bM.alloc _)) ((hb.block _ (by rw [z0]; omega)).trans bN) hi hx)
  ⟨⟨_, (bO.alloc _).alloc _, World.ownsRow_nil _ _ _ _⟩, hB0, by rw [z0]; exact Nat.le_refl _⟩
  (fun x => { tmps := #[.string (S m), .int .i64 ((k : Int) + 1), undef, undef, .slice none 0 0, .int .i64 0, .pointer (some ⟨w.heap.size, 0, none⟩), .string (S x), .int .i64 ((k : Int) + 1), .bool false, .string (S m), .int .i64 ((k : Int) + 1), .int .i64 ((k : Int) + 1), .int .i64 (k : Int), .func (.func 149) #[] #[.pointer (some ⟨w.heap.size + 1, 0, none⟩), .pointer (some ⟨w.heap.size + 1 + 1, 0, none⟩)], .string (S x), undef, undef, undef, undef, undef], defers := [] }) ?assign ?body ?done
 case assign =>
  intro l x W K hK
  gi_wp2
  exact hK
 case body =>
  rintro l pre x W ⟨⟨v, hv, hrow⟩, hB, hz⟩ hlt
  have hc := hv.cell;have hmx : pre.length + 1 ≤ maxLen := by
   have : (100001 : Nat) ≤ maxLen := by decide
   omega
  gi_wp2_with (gi_at_builtin; refine wpListIn_append_own _ rfl _ _ 31 rfl (w.heap.size + 3) 9 i0 (.string (S [])) 1 16 Tryz.underlying31 hi hz0 hz1 hz2 rfl (by decide) _ _ _ rfl (hrow.alloc _) ⟨W.heap.size, 0, none⟩ 1 1 [.string (S x)] rfl rfl (cell_one_new _ _ _) (by simp [Value.oneCell']) (by omega) (by omega) (by simp; omega) ?_; intro v' w1 hown' hgrow _; obtain ⟨g', cap', rfl⟩ := ownsRow_succ hown'; obtain ⟨hv1, hv2, hr2, hk2, hj2, hb2⟩ := zXZ hv (by decide) hrow hz (Nat.le_refl _) (by omega) hown' hgrow; have hc1 := hv1.cell; have hf1 := hv1.frozen)
  have fin : SpI w (pre ++ [x]) _ := ⟨⟨_, hv2, by simpa using hr2⟩, hB.trans hb2, Nat.le_trans hz hb2.size⟩
  have e1 := hj2 (w.heap.size + 1) (by omega) (by omega)
  have e2 := hj2 (w.heap.size + 1 + 1) (by omega) (by omega)
  refine ⟨hk2.from _, ?_⟩
  first | exact ⟨⟨e1, e2⟩, fin⟩ | exact ⟨e1, e2, fin⟩ | exact ⟨e1, fin⟩ | exact ⟨e2, fin⟩ | exact fin
 case done =>
  rintro D ys W hD rfl ⟨⟨v, hv, hrow⟩, hB, hz⟩ hK
  have hc := hv.cell
  gi_wp2
  refine ⟨by simp, .inl ⟨_, _, rfl, run_takeDeferred hK, ?_⟩⟩
  exact ⟨_, results_tmp2 rfl _ _ _, v, rfl, zPt (ownsRow_putObj (by simpa using hrow) _ hK rfl) (by omega), hB.trans (belowK_b (w := w) (Nat.le_refl _) W D _ _ (by simp at hD; omega) hK rfl rfl)⟩
theorem zKu (m : List UInt8) (k : Nat) (hk1 : 1 ≤ k) (hk2 : k ≤ 127) (hm : m.length < 100000) (w : World) :
  Calls Tryz.prog 107 #[.string (S m), .int .i64 ((k : Int) + 1)] w fun e W' => ∃ v, e = .returned (.tuple #[v, .int .i64 0]) ∧ W'.ownsRow w.heap.size 9 1 v (zAx k m.length 129 m).length ((zAx k m.length 129 m).map fun x => Value.string (S x)) ∧ Below w.heap.size w W' :=
 (callsIn_wide (n := 3)).1 (zOY _ 3 trivial trivial trivial rfl (by omega) m k hk1 hk2 hm w)
#print axioms zKu
end Go.Proofs.YtenkabjkgngcdaaGreat
