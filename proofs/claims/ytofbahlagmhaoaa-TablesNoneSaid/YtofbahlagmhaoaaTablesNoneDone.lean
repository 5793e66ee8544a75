/-
  TablesNone: for every input the Go text returns true, and its arguments read behind the call as they did ahead of it. Condition: none (the statement's own).
-/
import Derived.Test.YtofbahlagmhaoaaRows
import Derived.Test.YtofbahlagmhaoaaFrame
import Derived.Test.YtofbahlagmhaoaaTabN
namespace Go.Proofs.Ytofbahlagmhaoaa.tablesNone
set_option linter.unusedSimpArgs false
set_option linter.unusedVariables false
open Go.ChangeShapes Go.WideShapes Go.ChangeAt Go.RowKit
open Go.ChangeMaps (open_string shut_string)

theorem len8 {α : Type} : ∀ {l : List α}, l.length = 8 → ∃ x0 x1 x2 x3 x4 x5 x6 x7, l = [x0, x1, x2, x3, x4, x5, x6, x7]
  | [x0, x1, x2, x3, x4, x5, x6, x7], _ => ⟨x0, x1, x2, x3, x4, x5, x6, x7, rfl⟩
  | _ :: _ :: _ :: _ :: _ :: _ :: _ :: _ :: _ :: _, h => by simp only [List.length_cons] at h; omega
  | [], h => by simp at h
  | [_], h => by simp at h
  | [_, _], h => by simp at h
  | [_, _, _], h => by simp at h
  | [_, _, _, _], h => by simp at h
  | [_, _, _, _, _], h => by simp at h
  | [_, _, _, _, _, _], h => by simp at h
  | [_, _, _, _, _, _, _], h => by simp at h
set_option maxRecDepth 100000 in
theorem lifted (os : Os) (started : os.Started) (H : Type) (enc : TypeId × Value → H) :
    ReturnsInHanded {} Try.checked os 4 .any (Rows.tablesNoneSpec.pre6 enc Try.prog Try.f4 Rows.tablesNoneRow.domain false) (Rows.tablesNoneSpec.post enc Try.prog Try.f4 false true false false) := by
  refine returnsInHanded_of_change (C := Try.checked) own started (by kernel_rfl) Try.func4
    (ChangeSpec.witness6 (enc := enc) (C := Try.checked) false ⟨#[], #[.agg #[.int .u8 0, .int .u8 0, .bool false, .int .u8 0, .bool false, .int .u8 0, .int .u8 0, .string ByteArray.empty]], []⟩ 8 (by kernel_rfl) (by kernel_rfl) (by kernel_rfl) (by kernel_rfl)) ?_
  intro W base args ds gs before hval0 hW _ _
  have hval : ∀ (j : Nat) t v, Try.f4.params[j]? = some t → args[j]? = some v → Value.okWide Try.prog W .any base t v := hval0
  have hW' := hW
  obtain ⟨p, q, hA0, hV, rfl, hfz, hnd⟩ := hW
  have hA : DataW.TrodAll enc Try.prog W 0 (fun _ => true) true Try.f4.params.toList args.toList ds p := hA0
  rw [Try.params4] at hA hval
  obtain ⟨v0, vs0, d0, ds0, p0, q0, hargs, rfl, rfl, h0, r0⟩ := trodAll_cons hA
  obtain ⟨rfl, rfl, rfl⟩ := trodAll_nil r0
  obtain rfl : args = #[v0] := by cases args; simp_all
  obtain ⟨rfl, rfl⟩ := trodVars_none hV
  have k0 := h0
  have lt0 : ∀ x ∈ p0, x.block < W.heap.size := by obtain ⟨m, hm⟩ := k0; exact DataW.trod_lt m _ _ _ hm
  obtain ⟨l0, n0, rfl, hl0, hf0⟩ := open_agg2 Try.underlying34 8 (by kernel_rfl) (hval 0 34 v0 rfl rfl) h0
  obtain ⟨y0_f0, g0_f0⟩ := hf0 0 _ rfl
  obtain ⟨d0_0, e0_0, _, t0_0⟩ := leaf_cell 0 (by omega) g0_f0
  obtain ⟨y0_f1, g0_f1⟩ := hf0 1 _ rfl
  have s0_f1 := sub_cells 1 7 (by omega) Try.underlying30 (by kernel_rfl) rfl g0_f1
  obtain ⟨_, d0_1, e0_1, _, t0_1⟩ := s0_f1 0 _ rfl
  obtain ⟨_, d0_2, e0_2, _, t0_2⟩ := s0_f1 1 _ rfl
  obtain ⟨_, d0_3, e0_3, _, t0_3⟩ := s0_f1 2 _ rfl
  obtain ⟨_, d0_4, e0_4, _, t0_4⟩ := s0_f1 3 _ rfl
  obtain ⟨_, d0_5, e0_5, _, t0_5⟩ := s0_f1 4 _ rfl
  obtain ⟨_, d0_6, e0_6, _, t0_6⟩ := s0_f1 5 _ rfl
  obtain ⟨_, d0_7, e0_7, _, t0_7⟩ := s0_f1 6 _ rfl
  obtain ⟨c0_0, c0_1, c0_2, c0_3, c0_4, c0_5, c0_6, c0_7, rfl⟩ := len8 (hl0.trans rfl)
  obtain rfl : c0_0 = _ := Option.some.inj e0_0
  obtain ⟨a0_0, z0_0, _, w0_0⟩ := DataW.trod_int Try.underlying5 t0_0
  obtain rfl : c0_0 = _ := (List.cons.inj z0_0).1
  obtain rfl : c0_1 = _ := Option.some.inj e0_1
  obtain ⟨a0_1, z0_1, _, w0_1⟩ := DataW.trod_int Try.underlying5 t0_1
  obtain rfl : c0_1 = _ := (List.cons.inj z0_1).1
  obtain rfl : c0_2 = _ := Option.some.inj e0_2
  obtain ⟨a0_2, z0_2, _⟩ := DataW.trod_bool Try.underlying4 t0_2
  obtain rfl : c0_2 = _ := (List.cons.inj z0_2).1
  obtain rfl : c0_3 = _ := Option.some.inj e0_3
  obtain ⟨a0_3, z0_3, _, w0_3⟩ := DataW.trod_int Try.underlying5 t0_3
  obtain rfl : c0_3 = _ := (List.cons.inj z0_3).1
  obtain rfl : c0_4 = _ := Option.some.inj e0_4
  obtain ⟨a0_4, z0_4, _⟩ := DataW.trod_bool Try.underlying4 t0_4
  obtain rfl : c0_4 = _ := (List.cons.inj z0_4).1
  obtain rfl : c0_5 = _ := Option.some.inj e0_5
  obtain ⟨a0_5, z0_5, _, w0_5⟩ := DataW.trod_int Try.underlying5 t0_5
  obtain rfl : c0_5 = _ := (List.cons.inj z0_5).1
  obtain rfl : c0_6 = _ := Option.some.inj e0_6
  obtain ⟨a0_6, z0_6, _, w0_6⟩ := DataW.trod_int Try.underlying5 t0_6
  obtain rfl : c0_6 = _ := (List.cons.inj z0_6).1
  obtain rfl : c0_7 = _ := Option.some.inj e0_7
  obtain ⟨a0_7, z0_7, _, w0_7⟩ := DataW.trod_string Try.underlying9 t0_7
  obtain rfl : c0_7 = _ := (List.cons.inj z0_7).1
  clear hA0 hval0 hval
  refine (tablesNone_walk a0_0 w0_0 a0_1 w0_1 a0_2 a0_3 w0_3 a0_4 a0_5 w0_5 a0_6 w0_6 a0_7.data.toList w0_7 W).mono fun e W' ⟨he, bel⟩ => ?_
  subst he
  exact ⟨_, rfl, _, _, _, [], _, [], hW', trodAll_mk1 (shut_bool Try.underlying4 _), (trodAll_cons_mk (Below.trod laidOut (by kernel_rfl) (of_decide_eq_true (by kernel_rfl)) k0 bel lt0) trodAll_mk0), rfl, bel.frame _, fun h => by cases h⟩

theorem proved : Rows.TablesNoneSaid :=
  OpenClaim.holds_of_wide 4 Try.f4 rfl rfl rfl rfl rfl rfl rfl ⟨rfl, rfl, rfl, rfl, rfl⟩ rfl rfl rfl rfl rfl (by kernel_rfl) Try.func4 (by kernel_rfl)
    (of_decide_eq_true (by kernel_rfl)) (by unfold Func.isWrapper; first | (rw [if_pos (by decide +kernel)]; kernel_rfl) | (rw [if_neg (by decide +kernel)]; exact ⟨rfl, rfl⟩))
    (fun os started H enc _ => lifted os started H enc)
#print axioms proved
end Go.Proofs.Ytofbahlagmhaoaa.tablesNone
