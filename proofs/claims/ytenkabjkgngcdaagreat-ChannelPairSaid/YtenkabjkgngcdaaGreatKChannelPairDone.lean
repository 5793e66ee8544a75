import Derived.Test.YtenkabjkgngcdaaGreatRows
import Derived.Test.YtenkabjkgngcdaaGreatKa0
import Derived.Test.YtenkabjkgngcdaaGreatKf3
set_option linter.unusedVariables false
set_option linter.unusedSimpArgs false
set_option linter.unusedSectionVars false
namespace Go.Proofs.YtenkabjkgngcdaaGreat.channelPair
open Go.ChangeShapes Go.WideShapes Go.ChangeAt Go.RowKit
open Go.ChangeMaps (open_string shut_string)
theorem len8 {α : Type} : ∀ {l : List α}, l.length = 8 → ∃ x0 x1 x2 x3 x4 x5 x6 x7, l = [x0, x1, x2, x3, x4, x5, x6, x7]
 | [x0, x1, x2, x3, x4, x5, x6, x7], _ => ⟨x0, x1, x2, x3, x4, x5, x6, x7, rfl⟩
 | _ :: _ :: _ :: _ :: _ :: _ :: _ :: _ :: _ :: _, h => by simp only [List.length_cons] at h; omega
 | [], h => by simp at h
 | [_], h => by simp at h
 | [_, _], h => by simp at h
 | [_, _, _], h => by simp at h
 | [_, _, _, _], h => by simp at h
 | [_, _, _, _, _], h => by simp at h
 | [_, _, _, _, _, _], h => by simp at h
 | [_, _, _, _, _, _, _], h => by simp at h
set_option maxRecDepth 100000 in
theorem lifted (os : Os) (started : os.Started) (H : Type) (enc : TypeId × Value → H) :
  ReturnsInHanded {} Tryz.checked os 5 .any (Rows.channelPairSpec.pre6 enc Tryz.prog Tryz.f5 Rows.channelPairRow.domain false) (Rows.channelPairSpec.post enc Tryz.prog Tryz.f5 false true false false) := by
 refine returnsInHanded_of_change (C := Tryz.checked) own started (by kernel_rfl) Tryz.func5
  (ChangeSpec.witness6 (enc := enc) (C := Tryz.checked) false ⟨#[], #[.agg #[.bool false, .bool false, .int .i64 0, .int .i64 0, .int .i64 0, .int .i64 0, .int .i64 0, .int .i64 0], .slice none 0 0], []⟩ 8 (by kernel_rfl) (by kernel_rfl) (by kernel_rfl) (by kernel_rfl)) ?_
 intro W base args ds gs before hval0 hW _ _;have hval : ∀ (j : Nat) t v, Tryz.f5.params[j]? = some t → args[j]? = some v → Value.okWide Tryz.prog W .any base t v := hval0;have hW' := hW;obtain ⟨p, q, hA0, hV, rfl, hfz, hnd⟩ := hW;have hA : DataW.TrodAll enc Tryz.prog W 0 (fun _ => true) true Tryz.f5.params.toList args.toList ds p := hA0;rw [Tryz.params5] at hA hval;obtain ⟨v0, vs0, d0, ds0, p0, q0, hargs, rfl, rfl, h0, r0⟩ := trodAll_cons hA;obtain ⟨v1, vs1, d1, ds1, p1, q1, rfl, rfl, rfl, h1, r1⟩ := trodAll_cons r0;obtain ⟨rfl, rfl, rfl⟩ := trodAll_nil r1;obtain rfl : args = #[v0, v1] := by cases args; simp_all
 obtain ⟨rfl, rfl⟩ := trodVars_none hV;have k0 := h0;have lt0 : ∀ x ∈ p0, x.block < W.heap.size := by obtain ⟨m, hm⟩ := k0; exact DataW.trod_lt m _ _ _ hm
 obtain ⟨l0, n0, rfl, hl0, hf0⟩ := zZi Tryz.underlying23 (by kernel_rfl) (by kernel_rfl) (hval 0 23 v0 rfl rfl) h0
 obtain ⟨c0_0, c0_1, c0_2, c0_3, c0_4, c0_5, c0_6, c0_7, rfl⟩ := len8 (hl0.trans rfl);obtain ⟨_, y0_0, e0_0, t0_0⟩ := hf0 0 _ rfl;obtain rfl : c0_0 = _ := Option.some.inj e0_0;obtain ⟨a0_0, z0_0, _⟩ := DataW.trod_bool Tryz.underlying4 t0_0;obtain rfl : c0_0 = _ := (List.cons.inj z0_0).1;obtain ⟨_, y0_1, e0_1, t0_1⟩ := hf0 1 _ rfl;obtain rfl : c0_1 = _ := Option.some.inj e0_1;obtain ⟨a0_1, z0_1, _⟩ := DataW.trod_bool Tryz.underlying4 t0_1;obtain rfl : c0_1 = _ := (List.cons.inj z0_1).1;obtain ⟨_, y0_2, e0_2, t0_2⟩ := hf0 2 _ rfl;obtain rfl : c0_2 = _ := Option.some.inj e0_2;obtain ⟨a0_2, z0_2, _, w0_2⟩ := DataW.trod_int Tryz.underlying3 t0_2;obtain rfl : c0_2 = _ := (List.cons.inj z0_2).1;obtain ⟨_, y0_3, e0_3, t0_3⟩ := hf0 3 _ rfl;obtain rfl : c0_3 = _ := Option.some.inj e0_3;obtain ⟨a0_3, z0_3, _, w0_3⟩ := DataW.trod_int Tryz.underlying3 t0_3;obtain rfl : c0_3 = _ := (List.cons.inj z0_3).1;obtain ⟨_, y0_4, e0_4, t0_4⟩ := hf0 4 _ rfl;obtain rfl : c0_4 = _ := Option.some.inj e0_4;obtain ⟨a0_4, z0_4, _, w0_4⟩ := DataW.trod_int Tryz.underlying3 t0_4;obtain rfl : c0_4 = _ := (List.cons.inj z0_4).1;obtain ⟨_, y0_5, e0_5, t0_5⟩ := hf0 5 _ rfl;obtain rfl : c0_5 = _ := Option.some.inj e0_5;obtain ⟨a0_5, z0_5, _, w0_5⟩ := DataW.trod_int Tryz.underlying3 t0_5;obtain rfl : c0_5 = _ := (List.cons.inj z0_5).1;obtain ⟨_, y0_6, e0_6, t0_6⟩ := hf0 6 _ rfl;obtain rfl : c0_6 = _ := Option.some.inj e0_6;obtain ⟨a0_6, z0_6, _, w0_6⟩ := DataW.trod_int Tryz.underlying3 t0_6;obtain rfl : c0_6 = _ := (List.cons.inj z0_6).1;obtain ⟨_, y0_7, e0_7, t0_7⟩ := hf0 7 _ rfl;obtain rfl : c0_7 = _ := Option.some.inj e0_7;obtain ⟨a0_7, z0_7, _, w0_7⟩ := DataW.trod_int Tryz.underlying3 t0_7;obtain rfl : c0_7 = _ := (List.cons.inj z0_7).1;have k1 := h1;have lt1 : ∀ x ∈ p1, x.block < W.heap.size := by obtain ⟨m, hm⟩ := k1; exact DataW.trod_lt m _ _ _ hm
 refine (zIh a0_0 a0_1 a0_2 w0_2 a0_3 w0_3 a0_4 w0_4 a0_5 w0_5 a0_6 w0_6 a0_7 w0_7 v1 W (Ab.open_rows 10 Tryz.underlying53 (by kernel_rfl) (by kernel_rfl) (hval 1 53 v1 rfl rfl) h1)).mono fun e W' ⟨he, bel⟩ => ?_
 subst he;exact ⟨_, rfl, _, _, _, [], _, [], hW', trodAll_mk1 (shut_bool Tryz.underlying4 _), (trodAll_cons_mk (Below.trod laidOut (by kernel_rfl) (of_decide_eq_true (by kernel_rfl)) k0 bel lt0) (trodAll_cons_mk (Below.trod laidOut (by kernel_rfl) (of_decide_eq_true (by kernel_rfl)) k1 bel lt1) trodAll_mk0)), rfl, bel.frame _, fun h => by cases h⟩
theorem proved : Rows.ChannelPairSaid :=
 OpenClaim.holds_of_wide 5 Tryz.f5 rfl rfl rfl rfl rfl rfl rfl ⟨rfl, rfl, rfl, rfl, rfl⟩ rfl rfl rfl rfl rfl (by kernel_rfl) Tryz.func5 (by kernel_rfl)
  (of_decide_eq_true (by kernel_rfl)) (by unfold Func.isWrapper; first | (rw [if_pos (by decide +kernel)]; kernel_rfl) | (rw [if_neg (by decide +kernel)]; exact ⟨rfl, rfl⟩))
  (fun os started H enc _ => lifted os started H enc)
#print axioms proved
end Go.Proofs.YtenkabjkgngcdaaGreat.channelPair
