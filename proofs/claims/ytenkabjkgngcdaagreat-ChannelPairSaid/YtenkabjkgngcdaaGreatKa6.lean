import Derived.RangeFuncNested
import Derived.RangeFuncBound
import Derived.RangeFuncCalls
import Derived.RangeFuncLeaves
import Derived.RangeFuncBox
import Derived.Shelf.Abstract
import Derived.Shelf.RegionOpen
import Derived.WalkKit
import Derived.OwnWalkIn
import Derived.TacticsInMore
import Derived.LoopNIn
import Derived.LoopIn
import Derived.Maps.AppendAt
import Derived.Test.YtenkabjkgngcdaaGreatKa0
set_option linter.unusedVariables false
set_option linter.unusedSimpArgs false
set_option linter.unusedSectionVars false
namespace Go.Proofs.YtenkabjkgngcdaaGreat
open Go.RowKit Go.Shelf
attribute [local go_sem] Oper.semAt_some
set_option maxRecDepth 100000 in
set_option maxHeartbeats 1000000 in
theorem xIn (F : Fence) (n : Nat) (h6 : F.fn 149) (hro : F.round = none) (hn : 1 ≤ n) (l Bm Bs n₀ : Nat) (m : List UInt8) (k : Int) (hk : (m.length : Int) ≤ k) (hk2 : k ≤ 127) (J Jx : List (List UInt8) → World → Prop)
  (W : World) (hJ : AbidesFrom W.heap.size J)
  (hY : ∀ pre x W, J pre W → pre.length < 1 → YieldAt F (n - 1) Tryz.prog l #[.string (S x)] W fun e W' =>
   (e = .returned (.bool true) ∧ J (pre ++ [x]) W' ∧ Below n₀ W W') ∨ (e = .returned (.bool false) ∧ Jx (pre ++ [x]) W'))
  (hBm : W.cell? ⟨Bm, 0, none⟩ = some (.string (S m))) (hBs : W.cell? ⟨Bs, 0, none⟩ = some (.int .i64 k)) (h0 : J [] W) :
  CallsIn F n Tryz.prog 149 #[.func (.yield l) #[] #[], .pointer (some ⟨Bm, 0, none⟩), .pointer (some ⟨Bs, 0, none⟩)] W fun e W' => (∃ v, e = .returned v) ∧
   ((∃ ys, ys = [193 :: m] ∧ J ys W') ∨ (∃ pre, pre <+: [193 :: m] ∧ Jx pre W')) := by
 refine callsIn_of_wp Tryz.func149 rfl h6 ?_ hro;simp only [Tryz.ntmps149, List.size_toArray, List.length_cons, List.length_nil, Nat.reduceAdd, Nat.reduceSub, Array.replicate_succ, Array.replicate_zero, List.push_toArray, List.append_toArray, List.nil_append, List.cons_append]
 gi_wp2
 gi_loopw [4] (fun p wr => p = .int .u8 129 ∧ wr = W) (fun _ _ => 0)
 case atStart => exact ⟨rfl, rfl⟩
 case round =>
  obtain ⟨rfl, rfl⟩ := hrel;have hlen : ((S m).size : Int) ≤ k := by rw [zSs]; exact hk
  have hBm2 := (((Below.refl wr.heap.size wr).alloc (Nat.le_refl _) (.cells #[.int .u8 (bits BinOp.or IntKind.u8 129 64)] 5)).cell (p := ⟨Bm, 0, none⟩) (World.block_lt_of_cell? wr _ hBm)).trans hBm;have hJ2 : J [] (wr.alloc (.cells #[.int .u8 (bits BinOp.or IntKind.u8 129 64)] 5)) := hJ _ _ _ none h0 (World.grownBy_alloc wr _ none) (fun _ h => by cases h)
  obtain ⟨fn, tmps, assign, body, hy, hR⟩ := hY [] (b8 (bits BinOp.or IntKind.u8 129 64) :: m) _ hJ2 (by simp)
  have hsum : ¬ (9223372036854775807 < 1 + m.length) := by omega
  have hsum2 : 1 + m.length ≤ 9223372036854775807 := by omega
  gi_wp2
  refine hR.mono ?_
  rintro e W3 (⟨rfl, hJ3, hk3⟩ | ⟨rfl, hJx3⟩)
  ·gi_wp2
   go_end0
   rw [show b8 (bits BinOp.or IntKind.u8 129 64) = 193 from by decide +kernel] at hJ3
   exact ⟨⟨_, rfl⟩, .inl ⟨_, rfl, hJ3⟩⟩
  ·gi_wp2
   go_end0
   rw [show b8 (bits BinOp.or IntKind.u8 129 64) = 193 from by decide +kernel] at hJx3
   exact ⟨⟨_, rfl⟩, .inr ⟨_, List.prefix_refl _, hJx3⟩⟩
set_option maxHeartbeats 1000000 in
theorem zWa (F : Fence) (n : Nat) (h5 : F.fn 135) (hro : F.round = none) (m : List UInt8) (k : Int) (w : World) :
  CallsIn F n Tryz.prog 135 #[.string (S m), .int .i64 k] w fun e w' => e = .returned (.func (.func 149) #[] #[.pointer (some ⟨w.heap.size, 0, none⟩), .pointer (some ⟨w.heap.size + 1, 0, none⟩)]) ∧ w' = (w.alloc (.cells #[.string (S m)] 9)).alloc (.cells #[.int .i64 k] 3) := by
 refine callsIn_of_wp Tryz.func135 rfl h5 ?_ hro;simp only [Tryz.ntmps135, List.size_toArray, List.length_cons, List.length_nil, Nat.reduceAdd, Nat.reduceSub, Array.replicate_succ, Array.replicate_zero, List.push_toArray, List.append_toArray, List.nil_append, List.cons_append]
 gi_wp2
 go_ret
 exact ⟨by simp, rfl⟩
theorem zZ4 (F : Fence) (n : Nat) (h6 : F.fn 149) (hro : F.round = none) (hn : 1 ≤ n) (Bm Bs n₀ : Nat) (m : List UInt8) (k : Int) (hk : (m.length : Int) ≤ k) (hk2 : k ≤ 127) (w : World) (hBm : Bm < w.heap.size) (hBs : Bs < w.heap.size)
  (hc : w.cell? ⟨Bm, 0, none⟩ = some (.string (S m))) (hd : w.cell? ⟨Bs, 0, none⟩ = some (.int .i64 k)) :
  SeqStopsK F n Tryz.prog 149 #[.pointer (some ⟨Bm, 0, none⟩), .pointer (some ⟨Bs, 0, none⟩)] (fun x : List UInt8 => #[Value.string (S x)]) (Below n₀) (fun ys => ys = [193 :: m]) (fun pre => pre <+: [193 :: m]) 1 w := fun l J Jx W hW hJ _ hY h0 =>
 xIn F n h6 hro hn l Bm Bs n₀ m k hk hk2 J Jx W hJ hY ((hW.cell (p := ⟨Bm, 0, none⟩) hBm).trans hc) ((hW.cell (p := ⟨Bs, 0, none⟩) hBs).trans hd) h0
theorem zZ7 : (Tryz.prog.info? 9).map (fun i => (i.zero, i.size, i.bytes)) = some (some (.string (S [])), 1, 16) := by kernel_rfl
set_option maxRecDepth 100000 in
set_option maxHeartbeats 2000000 in
theorem zY4 (F : Fence) (n : Nat) (h3 : F.fn 107) (h4 : F.fn 135) (h5 : F.fn 149) (hro : F.round = none) (hn : 3 ≤ n) (m : List UInt8) (n1 : Int) (h2 : 2 ≤ n1) (hn128 : n1 ≤ 128) (hm : (m.length : Int) ≤ n1 - 1) (w : World) :
  CallsIn F n Tryz.prog 107 #[.string (S m), .int .i64 n1] w fun e W' => ∃ v, e = .returned (.tuple #[v, .int .i64 0]) ∧ W'.ownsRow w.heap.size 9 1 v 1 [.string (S (193 :: m))] ∧ Below w.heap.size w W' := by
 have h1 : 1 ≤ n := by omega
 obtain ⟨i0, hi, hz0, hz1, hz2⟩ := info_parts zZ7;have hn1 : ¬ n1 < 2 := by omega
 refine callsIn_of_wp_marks Tryz.func107 rfl h3 ?_ hro;simp only [Tryz.ntmps107, List.size_toArray, List.length_cons, List.length_nil, Nat.reduceAdd, Nat.reduceSub, Array.replicate_succ, Array.replicate_zero, List.push_toArray, List.append_toArray, List.nil_append, List.cons_append]
 gi_wp2_with (gi_at_call 135; refine (zWa F (n - 1) h4 hro _ _ _).mono ?_; rintro e w' ⟨rfl, rfl⟩)
 have bO := Boxed.new w 31 (.slice none 0 0);have bM := Boxed.new (w.alloc (.cells #[.slice none 0 0] 31)) 9 (.string (S m));rw [World.size_alloc] at bM;have bN := Boxed.new ((w.alloc (.cells #[.slice none 0 0] 31)).alloc (.cells #[.string (S m)] 9)) 3 (.int .i64 (n1 - 1));rw [World.size_alloc, World.size_alloc] at bN;have hB0 : Below w.heap.size w (((w.alloc (.cells #[.slice none 0 0] 31)).alloc (.cells #[.string (S m)] 9)).alloc (.cells #[.int .i64 (n1 - 1)] 3)) := (((Below.refl _ w).alloc (Nat.le_refl _) _).alloc (by simp) _).alloc (by simp; omega) _
 refine wpIn_rangeFunc_ownG hro h1 (gf := 149) (lb := #[.pointer (some ⟨w.heap.size + 1, 0, none⟩), .pointer (some ⟨w.heap.size + 1 + 1, 0, none⟩)]) rfl h5 (enters_of Tryz.func149 (by kernel_rfl) rfl)
  (zZ4 F (n - 1) h5 hro (by omega) (w.heap.size + 1) (w.heap.size + 1 + 1) w.heap.size m (n1 - 1) hm (by omega) _ (by simp) (by simp) (bM.alloc _).cell bN.cell) belowK_t (belowK_b (by simp; omega)) (Below.refl _ _) (fun _ => rfl)
  (fun pre W => (∃ v, Boxed W w.heap.size 31 v ∧ W.ownsRow w.heap.size 9 1 v pre.length (pre.map fun x => Value.string (S x)) ∧ True) ∧ Below w.heap.size w W)
  (fun _ _ _ => False)
  (OwnFrom.and (Own.from (holdsRow_own w.heap.size w.heap.size 31 9 1 (fun pre : List (List UInt8) => pre.length) (fun pre => pre.map fun x => Value.string (S x)) (fun _ _ => True)) _) (ownFrom_below (Nat.le_refl _) (by simp; omega)))
  (fun _ _ _ _ _ hs _ _ => hs)
  ⟨⟨_, (bO.alloc _).alloc _, World.ownsRow_nil _ _ _ _, trivial⟩, hB0⟩
  (fun x => { tmps := #[.string (S m), .int .i64 n1, undef, undef, .slice none 0 0, .int .i64 0, .pointer (some ⟨w.heap.size, 0, none⟩), .string (S x), .int .i64 n1, .bool false, .string (S m), .int .i64 n1, .int .i64 n1, .int .i64 (n1 - 1), .func (.func 149) #[] #[.pointer (some ⟨w.heap.size + 1, 0, none⟩), .pointer (some ⟨w.heap.size + 1 + 1, 0, none⟩)], .string (S x), undef, undef, undef, undef, undef], defers := [] }) ?assign ?body ?done ?stop
 case assign =>
  intro l x W K hK
  gi_wp2
  exact hK
 case body =>
  rintro l pre x W ⟨⟨v, hv, hrow, _⟩, hB⟩ hlt
  have hc := hv.cell;have hmx : pre.length + 1 ≤ maxLen := by
   rw [show pre.length = 0 by omega]; decide
  gi_wp2_with (gi_at_builtin; refine wpListIn_append_own _ rfl _ _ 31 rfl w.heap.size 9 i0 (.string (S [])) 1 16 Tryz.underlying31 hi hz0 hz1 hz2 rfl (by decide) _ _ _ rfl (hrow.alloc _) ⟨W.heap.size, 0, none⟩ 1 1 [.string (S x)] rfl rfl (cell_one_new _ _ _) (by simp [Value.oneCell']) (by omega) (by omega) (by have := hB.size; simp; omega) ?_; intro v' w1 hown' hgrow _; obtain ⟨g', cap', rfl⟩ := ownsRow_succ hown'; obtain ⟨hv1, hv2, hr2, hk2, hb2⟩ := hv.appended (by decide) hrow hB.size (Nat.le_refl _) hown' hgrow; have hc1 := hv1.cell; have hf1 := hv1.frozen)
  exact ⟨hk2.from _, hb2, ⟨_, hv2, by simpa using hr2, trivial⟩, hB.trans hb2⟩
 case done =>
  rintro D ys W hD rfl ⟨⟨v, hv, hrow, _⟩, hB⟩ hK
  have hc := hv.cell
  gi_wp2
  refine ⟨by simp, .inl ⟨_, _, rfl, run_takeDeferred hK, ?_⟩⟩
  exact ⟨_, results_tmp2 rfl _ _ _, v, rfl, ownsRow_putObj (by simpa using hrow) _ hK rfl, hB.trans (belowK_b (w := w) (Nat.le_refl _) W D _ _ (by simp at hD; omega) hK rfl rfl)⟩
 case stop =>
  rintro D c pre W _ _ h _
  exact h.elim
theorem zML (m : List UInt8) (n1 : Int) (h2 : 2 ≤ n1) (hn128 : n1 ≤ 128) (hm : (m.length : Int) ≤ n1 - 1) (w : World) :
  Calls Tryz.prog 107 #[.string (S m), .int .i64 n1] w fun e W' => ∃ v, e = .returned (.tuple #[v, .int .i64 0]) ∧ W'.ownsRow w.heap.size 9 1 v 1 [.string (S (193 :: m))] ∧ Below w.heap.size w W' :=
 (callsIn_wide (n := 3)).1 (zY4 _ 3 trivial trivial trivial rfl (by omega) m n1 h2 hn128 hm w)
#print axioms zML
end Go.Proofs.YtenkabjkgngcdaaGreat
