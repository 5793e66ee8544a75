/-
  MsgsPuts: for every input the Go text returns true, and its arguments read behind the call as they did ahead of it. Condition: none (the statement's own).
-/
import Derived.Test.YtblnjeifnhphfaaRows
import Derived.Test.YtblnjeifnhphfaaFrame
import Derived.Test.YtblnjeifnhphfaaMsgG
namespace Go.Proofs.Ytblnjeifnhphfaa.msgsPuts
set_option linter.unusedSimpArgs false
set_option linter.unusedVariables false
open Go.ChangeShapes Go.WideShapes Go.ChangeAt Go.RowKit
open Go.ChangeMaps (open_string shut_string)

theorem len20 {α : Type} : ∀ {l : List α}, l.length = 20 → ∃ x0 x1 x2 x3 x4 x5 x6 x7 x8 x9 x10 x11 x12 x13 x14 x15 x16 x17 x18 x19, l = [x0, x1, x2, x3, x4, x5, x6, x7, x8, x9, x10, x11, x12, x13, x14, x15, x16, x17, x18, x19]
  | [x0, x1, x2, x3, x4, x5, x6, x7, x8, x9, x10, x11, x12, x13, x14, x15, x16, x17, x18, x19], _ => ⟨x0, x1, x2, x3, x4, x5, x6, x7, x8, x9, x10, x11, x12, x13, x14, x15, x16, x17, x18, x19, rfl⟩
  | _ :: _ :: _ :: _ :: _ :: _ :: _ :: _ :: _ :: _ :: _ :: _ :: _ :: _ :: _ :: _ :: _ :: _ :: _ :: _ :: _ :: _, h => by simp only [List.length_cons] at h; omega
  | [], h => by simp at h
  | [_], h => by simp at h
  | [_, _], h => by simp at h
  | [_, _, _], h => by simp at h
  | [_, _, _, _], h => by simp at h
  | [_, _, _, _, _], h => by simp at h
  | [_, _, _, _, _, _], h => by simp at h
  | [_, _, _, _, _, _, _], h => by simp at h
  | [_, _, _, _, _, _, _, _], h => by simp at h
  | [_, _, _, _, _, _, _, _, _], h => by simp at h
  | [_, _, _, _, _, _, _, _, _, _], h => by simp at h
  | [_, _, _, _, _, _, _, _, _, _, _], h => by simp at h
  | [_, _, _, _, _, _, _, _, _, _, _, _], h => by simp at h
  | [_, _, _, _, _, _, _, _, _, _, _, _, _], h => by simp at h
  | [_, _, _, _, _, _, _, _, _, _, _, _, _, _], h => by simp at h
  | [_, _, _, _, _, _, _, _, _, _, _, _, _, _, _], h => by simp at h
  | [_, _, _, _, _, _, _, _, _, _, _, _, _, _, _, _], h => by simp at h
  | [_, _, _, _, _, _, _, _, _, _, _, _, _, _, _, _, _], h => by simp at h
  | [_, _, _, _, _, _, _, _, _, _, _, _, _, _, _, _, _, _], h => by simp at h
  | [_, _, _, _, _, _, _, _, _, _, _, _, _, _, _, _, _, _, _], h => by simp at h
set_option maxRecDepth 100000 in
theorem lifted (os : Os) (started : os.Started) (H : Type) (enc : TypeId × Value → H) :
    ReturnsInHanded {} Try.checked os 4 .any (Rows.msgsPutsSpec.pre6 enc Try.prog Try.f4 Rows.msgsPutsRow.domain false) (Rows.msgsPutsSpec.post enc Try.prog Try.f4 false true false false) := by
  refine returnsInHanded_of_change (C := Try.checked) own started (by kernel_rfl) Try.func4
    (ChangeSpec.witness6 (enc := enc) (C := Try.checked) false ⟨#[], #[.agg #[.int .u8 0, .bool false, .int .u8 0, .int .u8 0, .int .u8 0, .int .u8 0, .int .i64 0, .int .i64 0, .int .i64 0, .int .i64 0, .int .u8 0, .bool false, .bool false, .bool false, .bool false, .bool false, .bool false, .int .u8 0, .int .u8 0, .string ByteArray.empty]], []⟩ 8 (by kernel_rfl) (by kernel_rfl) (by kernel_rfl) (by kernel_rfl)) ?_
  intro W base args ds gs before hval0 hW _ _
  have hval : ∀ (j : Nat) t v, Try.f4.params[j]? = some t → args[j]? = some v → Value.okWide Try.prog W .any base t v := hval0
  have hW' := hW
  obtain ⟨p, q, hA0, hV, rfl, hfz, hnd⟩ := hW
  have hA : DataW.TrodAll enc Try.prog W 0 (fun _ => true) true Try.f4.params.toList args.toList ds p := hA0
  rw [Try.params4] at hA hval
  obtain ⟨v0, vs0, d0, ds0, p0, q0, hargs, rfl, rfl, h0, r0⟩ := trodAll_cons hA
  obtain ⟨rfl, rfl, rfl⟩ := trodAll_nil r0
  obtain rfl : args = #[v0] := by cases args; simp_all
  obtain ⟨rfl, rfl⟩ := trodVars_none hV
  have k0 := h0
  have lt0 : ∀ x ∈ p0, x.block < W.heap.size := by obtain ⟨m, hm⟩ := k0; exact DataW.trod_lt m _ _ _ hm
  obtain ⟨l0, n0, rfl, hl0, hf0⟩ := open_agg2 Try.underlying28 20 (by kernel_rfl) (hval 0 28 v0 rfl rfl) h0
  obtain ⟨y0_f0, g0_f0⟩ := hf0 0 _ rfl
  obtain ⟨d0_0, e0_0, _, t0_0⟩ := leaf_cell 0 (by omega) g0_f0
  obtain ⟨y0_f1, g0_f1⟩ := hf0 1 _ rfl
  obtain ⟨d0_1, e0_1, _, t0_1⟩ := leaf_cell 1 (by omega) g0_f1
  obtain ⟨y0_f2, g0_f2⟩ := hf0 2 _ rfl
  have s0_f2 := sub_cells 2 8 (by omega) Try.underlying24 (by kernel_rfl) rfl g0_f2
  obtain ⟨_, d0_2, e0_2, _, t0_2⟩ := s0_f2 0 _ rfl
  obtain ⟨_, d0_3, e0_3, _, t0_3⟩ := s0_f2 1 _ rfl
  obtain ⟨_, d0_4, e0_4, _, t0_4⟩ := s0_f2 2 _ rfl
  obtain ⟨_, d0_5, e0_5, _, t0_5⟩ := s0_f2 3 _ rfl
  obtain ⟨_, d0_6, e0_6, _, t0_6⟩ := s0_f2 4 _ rfl
  obtain ⟨_, d0_7, e0_7, _, t0_7⟩ := s0_f2 5 _ rfl
  obtain ⟨_, d0_8, e0_8, _, t0_8⟩ := s0_f2 6 _ rfl
  obtain ⟨_, d0_9, e0_9, _, t0_9⟩ := s0_f2 7 _ rfl
  obtain ⟨y0_f3, g0_f3⟩ := hf0 3 _ rfl
  have s0_f3 := sub_cells 10 8 (by omega) Try.underlying26 (by kernel_rfl) rfl g0_f3
  obtain ⟨_, d0_10, e0_10, _, t0_10⟩ := s0_f3 0 _ rfl
  obtain ⟨_, d0_11, e0_11, _, t0_11⟩ := s0_f3 1 _ rfl
  obtain ⟨_, d0_12, e0_12, _, t0_12⟩ := s0_f3 2 _ rfl
  obtain ⟨_, d0_13, e0_13, _, t0_13⟩ := s0_f3 3 _ rfl
  obtain ⟨_, d0_14, e0_14, _, t0_14⟩ := s0_f3 4 _ rfl
  obtain ⟨_, d0_15, e0_15, _, t0_15⟩ := s0_f3 5 _ rfl
  obtain ⟨_, d0_16, e0_16, _, t0_16⟩ := s0_f3 6 _ rfl
  obtain ⟨_, d0_17, e0_17, _, t0_17⟩ := s0_f3 7 _ rfl
  obtain ⟨y0_f4, g0_f4⟩ := hf0 4 _ rfl
  obtain ⟨d0_18, e0_18, _, t0_18⟩ := leaf_cell 18 (by omega) g0_f4
  obtain ⟨y0_f5, g0_f5⟩ := hf0 5 _ rfl
  obtain ⟨d0_19, e0_19, _, t0_19⟩ := leaf_cell 19 (by omega) g0_f5
  obtain ⟨c0_0, c0_1, c0_2, c0_3, c0_4, c0_5, c0_6, c0_7, c0_8, c0_9, c0_10, c0_11, c0_12, c0_13, c0_14, c0_15, c0_16, c0_17, c0_18, c0_19, rfl⟩ := len20 (hl0.trans rfl)
  obtain rfl : c0_0 = _ := Option.some.inj e0_0
  obtain ⟨a0_0, z0_0, _, w0_0⟩ := DataW.trod_int Try.underlying5 t0_0
  obtain rfl : c0_0 = _ := (List.cons.inj z0_0).1
  obtain rfl : c0_1 = _ := Option.some.inj e0_1
  obtain ⟨a0_1, z0_1, _⟩ := DataW.trod_bool Try.underlying4 t0_1
  obtain rfl : c0_1 = _ := (List.cons.inj z0_1).1
  obtain rfl : c0_2 = _ := Option.some.inj e0_2
  obtain ⟨a0_2, z0_2, _, w0_2⟩ := DataW.trod_int Try.underlying5 t0_2
  obtain rfl : c0_2 = _ := (List.cons.inj z0_2).1
  obtain rfl : c0_3 = _ := Option.some.inj e0_3
  obtain ⟨a0_3, z0_3, _, w0_3⟩ := DataW.trod_int Try.underlying5 t0_3
  obtain rfl : c0_3 = _ := (List.cons.inj z0_3).1
  obtain rfl : c0_4 = _ := Option.some.inj e0_4
  obtain ⟨a0_4, z0_4, _, w0_4⟩ := DataW.trod_int Try.underlying5 t0_4
  obtain rfl : c0_4 = _ := (List.cons.inj z0_4).1
  obtain rfl : c0_5 = _ := Option.some.inj e0_5
  obtain ⟨a0_5, z0_5, _, w0_5⟩ := DataW.trod_int Try.underlying5 t0_5
  obtain rfl : c0_5 = _ := (List.cons.inj z0_5).1
  obtain rfl : c0_6 = _ := Option.some.inj e0_6
  obtain ⟨a0_6, z0_6, _, w0_6⟩ := DataW.trod_int Try.underlying3 t0_6
  obtain rfl : c0_6 = _ := (List.cons.inj z0_6).1
  obtain rfl : c0_7 = _ := Option.some.inj e0_7
  obtain ⟨a0_7, z0_7, _, w0_7⟩ := DataW.trod_int Try.underlying3 t0_7
  obtain rfl : c0_7 = _ := (List.cons.inj z0_7).1
  obtain rfl : c0_8 = _ := Option.some.inj e0_8
  obtain ⟨a0_8, z0_8, _, w0_8⟩ := DataW.trod_int Try.underlying3 t0_8
  obtain rfl : c0_8 = _ := (List.cons.inj z0_8).1
  obtain rfl : c0_9 = _ := Option.some.inj e0_9
  obtain ⟨a0_9, z0_9, _, w0_9⟩ := DataW.trod_int Try.underlying3 t0_9
  obtain rfl : c0_9 = _ := (List.cons.inj z0_9).1
  obtain rfl : c0_10 = _ := Option.some.inj e0_10
  obtain ⟨a0_10, z0_10, _, w0_10⟩ := DataW.trod_int Try.underlying5 t0_10
  obtain rfl : c0_10 = _ := (List.cons.inj z0_10).1
  obtain rfl : c0_11 = _ := Option.some.inj e0_11
  obtain ⟨a0_11, z0_11, _⟩ := DataW.trod_bool Try.underlying4 t0_11
  obtain rfl : c0_11 = _ := (List.cons.inj z0_11).1
  obtain rfl : c0_12 = _ := Option.some.inj e0_12
  obtain ⟨a0_12, z0_12, _⟩ := DataW.trod_bool Try.underlying4 t0_12
  obtain rfl : c0_12 = _ := (List.cons.inj z0_12).1
  obtain rfl : c0_13 = _ := Option.some.inj e0_13
  obtain ⟨a0_13, z0_13, _⟩ := DataW.trod_bool Try.underlying4 t0_13
  obtain rfl : c0_13 = _ := (List.cons.inj z0_13).1
  obtain rfl : c0_14 = _ := Option.some.inj e0_14
  obtain ⟨a0_14, z0_14, _⟩ := DataW.trod_bool Try.underlying4 t0_14
  obtain rfl : c0_14 = _ := (List.cons.inj z0_14).1
  obtain rfl : c0_15 = _ := Option.some.inj e0_15
  obtain ⟨a0_15, z0_15, _⟩ := DataW.trod_bool Try.underlying4 t0_15
  obtain rfl : c0_15 = _ := (List.cons.inj z0_15).1
  obtain rfl : c0_16 = _ := Option.some.inj e0_16
  obtain ⟨a0_16, z0_16, _⟩ := DataW.trod_bool Try.underlying4 t0_16
  obtain rfl : c0_16 = _ := (List.cons.inj z0_16).1
  obtain rfl : c0_17 = _ := Option.some.inj e0_17
  obtain ⟨a0_17, z0_17, _, w0_17⟩ := DataW.trod_int Try.underlying5 t0_17
  obtain rfl : c0_17 = _ := (List.cons.inj z0_17).1
  obtain rfl : c0_18 = _ := Option.some.inj e0_18
  obtain ⟨a0_18, z0_18, _, w0_18⟩ := DataW.trod_int Try.underlying5 t0_18
  obtain rfl : c0_18 = _ := (List.cons.inj z0_18).1
  obtain rfl : c0_19 = _ := Option.some.inj e0_19
  obtain ⟨a0_19, z0_19, _, w0_19⟩ := DataW.trod_string Try.underlying9 t0_19
  obtain rfl : c0_19 = _ := (List.cons.inj z0_19).1
  clear hA0 hval0 hval
  refine (msgsPuts_walk a0_0 w0_0 a0_1 a0_2 w0_2 a0_3 w0_3 a0_4 w0_4 a0_5 w0_5 a0_6 w0_6 a0_7 w0_7 a0_8 w0_8 a0_9 w0_9 a0_10 w0_10 a0_11 a0_12 a0_13 a0_14 a0_15 a0_16 a0_17 w0_17 a0_18 w0_18 a0_19.data.toList w0_19 W).mono fun e W' ⟨he, bel⟩ => ?_
  subst he
  exact ⟨_, rfl, _, _, _, [], _, [], hW', trodAll_mk1 (shut_bool Try.underlying4 _), (trodAll_cons_mk (Below.trod laidOut (by kernel_rfl) (of_decide_eq_true (by kernel_rfl)) k0 bel lt0) trodAll_mk0), rfl, bel.frame _, fun h => by cases h⟩

theorem proved : Rows.MsgsPutsSaid :=
  OpenClaim.holds_of_wide 4 Try.f4 rfl rfl rfl rfl rfl rfl rfl ⟨rfl, rfl, rfl, rfl, rfl⟩ rfl rfl rfl rfl rfl (by kernel_rfl) Try.func4 (by kernel_rfl)
    (of_decide_eq_true (by kernel_rfl)) (by unfold Func.isWrapper; first | (rw [if_pos (by decide +kernel)]; kernel_rfl) | (rw [if_neg (by decide +kernel)]; exact ⟨rfl, rfl⟩))
    (fun os started H enc _ => lifted os started H enc)
#print axioms proved
end Go.Proofs.Ytblnjeifnhphfaa.msgsPuts
