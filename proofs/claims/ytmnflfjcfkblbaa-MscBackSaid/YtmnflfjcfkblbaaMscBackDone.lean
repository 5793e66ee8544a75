/-
  MscBack: for every input the Go text returns true, and its arguments read behind the call as they did ahead of it. Condition: none (the statement's own).
-/
import Derived.Test.YtmnflfjcfkblbaaRows
import Derived.Test.YtmnflfjcfkblbaaFrame
import Derived.Test.YtmnflfjcfkblbaaMscB
namespace Go.Proofs.Ytmnflfjcfkblbaa.mscBack
set_option linter.unusedSimpArgs false
set_option linter.unusedVariables false
open Go.ChangeShapes Go.WideShapes Go.ChangeAt Go.RowKit
open Go.ChangeMaps (open_string shut_string)

theorem len8 {α : Type} : ∀ {l : List α}, l.length = 8 → ∃ x0 x1 x2 x3 x4 x5 x6 x7, l = [x0, x1, x2, x3, x4, x5, x6, x7]
  | [x0, x1, x2, x3, x4, x5, x6, x7], _ => ⟨x0, x1, x2, x3, x4, x5, x6, x7, rfl⟩
  | _ :: _ :: _ :: _ :: _ :: _ :: _ :: _ :: _ :: _, h => by simp only [List.length_cons] at h; omega
  | [], h => by simp at h
  | [_], h => by simp at h
  | [_, _], h => by simp at h
  | [_, _, _], h => by simp at h
  | [_, _, _, _], h => by simp at h
  | [_, _, _, _, _], h => by simp at h
  | [_, _, _, _, _, _], h => by simp at h
  | [_, _, _, _, _, _, _], h => by simp at h
set_option maxRecDepth 100000 in
theorem lifted (os : Os) (started : os.Started) (H : Type) (enc : TypeId × Value → H) :
    ReturnsInHanded {} Try.checked os 9 .any (Rows.mscBackSpec.pre6 enc Try.prog Try.f9 Rows.mscBackRow.domain false) (Rows.mscBackSpec.post enc Try.prog Try.f9 false true false false) := by
  refine returnsInHanded_of_change (C := Try.checked) own started (by kernel_rfl) Try.func9
    (ChangeSpec.witness6 (enc := enc) (C := Try.checked) false ⟨#[], #[.agg #[.int .u8 0, .bool false, .bool false, .bool false, .bool false, .bool false, .bool false, .int .u8 0], .agg #[.int .u8 0, .bool false, .bool false, .bool false, .bool false, .bool false, .bool false, .int .u8 0], .string ByteArray.empty], []⟩ 8 (by kernel_rfl) (by kernel_rfl) (by kernel_rfl) (by kernel_rfl)) ?_
  intro W base args ds gs before hval0 hW _ _
  have hval : ∀ (j : Nat) t v, Try.f9.params[j]? = some t → args[j]? = some v → Value.okWide Try.prog W .any base t v := hval0
  have hW' := hW
  obtain ⟨p, q, hA0, hV, rfl, hfz, hnd⟩ := hW
  have hA : DataW.TrodAll enc Try.prog W 0 (fun _ => true) true Try.f9.params.toList args.toList ds p := hA0
  rw [Try.params9] at hA hval
  obtain ⟨v0, vs0, d0, ds0, p0, q0, hargs, rfl, rfl, h0, r0⟩ := trodAll_cons hA
  obtain ⟨v1, vs1, d1, ds1, p1, q1, rfl, rfl, rfl, h1, r1⟩ := trodAll_cons r0
  obtain ⟨v2, vs2, d2, ds2, p2, q2, rfl, rfl, rfl, h2, r2⟩ := trodAll_cons r1
  obtain ⟨rfl, rfl, rfl⟩ := trodAll_nil r2
  obtain rfl : args = #[v0, v1, v2] := by cases args; simp_all
  obtain ⟨rfl, rfl⟩ := trodVars_none hV
  have k0 := h0
  have lt0 : ∀ x ∈ p0, x.block < W.heap.size := by obtain ⟨m, hm⟩ := k0; exact DataW.trod_lt m _ _ _ hm
  obtain ⟨l0, n0, rfl, hl0, hf0⟩ := open_agg Try.underlying36 (by kernel_rfl) (by kernel_rfl) (hval 0 36 v0 rfl rfl) h0
  obtain ⟨c0_0, c0_1, c0_2, c0_3, c0_4, c0_5, c0_6, c0_7, rfl⟩ := len8 (hl0.trans rfl)
  obtain ⟨_, y0_0, e0_0, t0_0⟩ := hf0 0 _ rfl
  obtain rfl : c0_0 = _ := Option.some.inj e0_0
  obtain ⟨a0_0, z0_0, _, w0_0⟩ := DataW.trod_int Try.underlying5 t0_0
  obtain rfl : c0_0 = _ := (List.cons.inj z0_0).1
  obtain ⟨_, y0_1, e0_1, t0_1⟩ := hf0 1 _ rfl
  obtain rfl : c0_1 = _ := Option.some.inj e0_1
  obtain ⟨a0_1, z0_1, _⟩ := DataW.trod_bool Try.underlying4 t0_1
  obtain rfl : c0_1 = _ := (List.cons.inj z0_1).1
  obtain ⟨_, y0_2, e0_2, t0_2⟩ := hf0 2 _ rfl
  obtain rfl : c0_2 = _ := Option.some.inj e0_2
  obtain ⟨a0_2, z0_2, _⟩ := DataW.trod_bool Try.underlying4 t0_2
  obtain rfl : c0_2 = _ := (List.cons.inj z0_2).1
  obtain ⟨_, y0_3, e0_3, t0_3⟩ := hf0 3 _ rfl
  obtain rfl : c0_3 = _ := Option.some.inj e0_3
  obtain ⟨a0_3, z0_3, _⟩ := DataW.trod_bool Try.underlying4 t0_3
  obtain rfl : c0_3 = _ := (List.cons.inj z0_3).1
  obtain ⟨_, y0_4, e0_4, t0_4⟩ := hf0 4 _ rfl
  obtain rfl : c0_4 = _ := Option.some.inj e0_4
  obtain ⟨a0_4, z0_4, _⟩ := DataW.trod_bool Try.underlying4 t0_4
  obtain rfl : c0_4 = _ := (List.cons.inj z0_4).1
  obtain ⟨_, y0_5, e0_5, t0_5⟩ := hf0 5 _ rfl
  obtain rfl : c0_5 = _ := Option.some.inj e0_5
  obtain ⟨a0_5, z0_5, _⟩ := DataW.trod_bool Try.underlying4 t0_5
  obtain rfl : c0_5 = _ := (List.cons.inj z0_5).1
  obtain ⟨_, y0_6, e0_6, t0_6⟩ := hf0 6 _ rfl
  obtain rfl : c0_6 = _ := Option.some.inj e0_6
  obtain ⟨a0_6, z0_6, _⟩ := DataW.trod_bool Try.underlying4 t0_6
  obtain rfl : c0_6 = _ := (List.cons.inj z0_6).1
  obtain ⟨_, y0_7, e0_7, t0_7⟩ := hf0 7 _ rfl
  obtain rfl : c0_7 = _ := Option.some.inj e0_7
  obtain ⟨a0_7, z0_7, _, w0_7⟩ := DataW.trod_int Try.underlying5 t0_7
  obtain rfl : c0_7 = _ := (List.cons.inj z0_7).1
  have k1 := h1
  have lt1 : ∀ x ∈ p1, x.block < W.heap.size := by obtain ⟨m, hm⟩ := k1; exact DataW.trod_lt m _ _ _ hm
  obtain ⟨l1, n1, rfl, hl1, hf1⟩ := open_agg Try.underlying36 (by kernel_rfl) (by kernel_rfl) (hval 1 36 v1 rfl rfl) h1
  obtain ⟨c1_0, c1_1, c1_2, c1_3, c1_4, c1_5, c1_6, c1_7, rfl⟩ := len8 (hl1.trans rfl)
  obtain ⟨_, y1_0, e1_0, t1_0⟩ := hf1 0 _ rfl
  obtain rfl : c1_0 = _ := Option.some.inj e1_0
  obtain ⟨a1_0, z1_0, _, w1_0⟩ := DataW.trod_int Try.underlying5 t1_0
  obtain rfl : c1_0 = _ := (List.cons.inj z1_0).1
  obtain ⟨_, y1_1, e1_1, t1_1⟩ := hf1 1 _ rfl
  obtain rfl : c1_1 = _ := Option.some.inj e1_1
  obtain ⟨a1_1, z1_1, _⟩ := DataW.trod_bool Try.underlying4 t1_1
  obtain rfl : c1_1 = _ := (List.cons.inj z1_1).1
  obtain ⟨_, y1_2, e1_2, t1_2⟩ := hf1 2 _ rfl
  obtain rfl : c1_2 = _ := Option.some.inj e1_2
  obtain ⟨a1_2, z1_2, _⟩ := DataW.trod_bool Try.underlying4 t1_2
  obtain rfl : c1_2 = _ := (List.cons.inj z1_2).1
  obtain ⟨_, y1_3, e1_3, t1_3⟩ := hf1 3 _ rfl
  obtain rfl : c1_3 = _ := Option.some.inj e1_3
  obtain ⟨a1_3, z1_3, _⟩ := DataW.trod_bool Try.underlying4 t1_3
  obtain rfl : c1_3 = _ := (List.cons.inj z1_3).1
  obtain ⟨_, y1_4, e1_4, t1_4⟩ := hf1 4 _ rfl
  obtain rfl : c1_4 = _ := Option.some.inj e1_4
  obtain ⟨a1_4, z1_4, _⟩ := DataW.trod_bool Try.underlying4 t1_4
  obtain rfl : c1_4 = _ := (List.cons.inj z1_4).1
  obtain ⟨_, y1_5, e1_5, t1_5⟩ := hf1 5 _ rfl
  obtain rfl : c1_5 = _ := Option.some.inj e1_5
  obtain ⟨a1_5, z1_5, _⟩ := DataW.trod_bool Try.underlying4 t1_5
  obtain rfl : c1_5 = _ := (List.cons.inj z1_5).1
  obtain ⟨_, y1_6, e1_6, t1_6⟩ := hf1 6 _ rfl
  obtain rfl : c1_6 = _ := Option.some.inj e1_6
  obtain ⟨a1_6, z1_6, _⟩ := DataW.trod_bool Try.underlying4 t1_6
  obtain rfl : c1_6 = _ := (List.cons.inj z1_6).1
  obtain ⟨_, y1_7, e1_7, t1_7⟩ := hf1 7 _ rfl
  obtain rfl : c1_7 = _ := Option.some.inj e1_7
  obtain ⟨a1_7, z1_7, _, w1_7⟩ := DataW.trod_int Try.underlying5 t1_7
  obtain rfl : c1_7 = _ := (List.cons.inj z1_7).1
  have k2 := h2
  have lt2 : ∀ x ∈ p2, x.block < W.heap.size := by obtain ⟨m, hm⟩ := k2; exact DataW.trod_lt m _ _ _ hm
  obtain ⟨a2, rfl, _, _, w2⟩ := open_string Try.underlying9 (hval 2 9 v2 rfl rfl) h2
  clear hA0 hval0 hval
  refine (mscBack_walk a0_0 w0_0 a0_1 a0_2 a0_3 a0_4 a0_5 a0_6 a0_7 w0_7 a1_0 w1_0 a1_1 a1_2 a1_3 a1_4 a1_5 a1_6 a1_7 w1_7 a2.data.toList w2 W).mono fun e W' ⟨he, bel⟩ => ?_
  subst he
  exact ⟨_, rfl, _, _, _, [], _, [], hW', trodAll_mk1 (shut_bool Try.underlying4 _), (trodAll_cons_mk (Below.trod laidOut (by kernel_rfl) (of_decide_eq_true (by kernel_rfl)) k0 bel lt0) (trodAll_cons_mk (Below.trod laidOut (by kernel_rfl) (of_decide_eq_true (by kernel_rfl)) k1 bel lt1) (trodAll_cons_mk (Below.trod laidOut (by kernel_rfl) (of_decide_eq_true (by kernel_rfl)) k2 bel lt2) trodAll_mk0))), rfl, bel.frame _, fun h => by cases h⟩

theorem proved : Rows.MscBackSaid :=
  OpenClaim.holds_of_wide 9 Try.f9 rfl rfl rfl rfl rfl rfl rfl ⟨rfl, rfl, rfl, rfl, rfl⟩ rfl rfl rfl rfl rfl (by kernel_rfl) Try.func9 (by kernel_rfl)
    (of_decide_eq_true (by kernel_rfl)) (by unfold Func.isWrapper; first | (rw [if_pos (by decide +kernel)]; kernel_rfl) | (rw [if_neg (by decide +kernel)]; exact ⟨rfl, rfl⟩))
    (fun os started H enc _ => lifted os started H enc)
#print axioms proved
end Go.Proofs.Ytmnflfjcfkblbaa.mscBack
