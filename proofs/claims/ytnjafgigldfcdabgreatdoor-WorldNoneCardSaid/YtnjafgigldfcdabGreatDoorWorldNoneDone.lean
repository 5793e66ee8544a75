/-
  WorldNone: for every input the Go text returns true, and its arguments read behind the call as they did ahead of it. Condition: none (the statement's own).
-/
import Derived.Test.YtnjafgigldfcdabGreatDoorRows
import Derived.Test.YtnjafgigldfcdabGreatDoorFrame
import Derived.Test.YtnjafgigldfcdabGreatDoorWoW
import Derived.Test.YtnjafgigldfcdabGreatDoorCards
import Derived.Test.YtnjafgigldfcdabGreatDoorTie
import Derived.Test.YtnjafgigldfcdabGreatDoorRd
import Derived.LaidMore
import Derived.SevenTiedAt
namespace Go.Proofs.YtnjafgigldfcdabGreatDoor.worldNone
set_option linter.unusedSimpArgs false
set_option linter.unusedVariables false
open Go.ChangeShapes Go.WideShapes Go.ChangeAt Go.RowKit
open Go.ChangeMaps (open_string shut_string)

theorem len6 {α : Type} : ∀ {l : List α}, l.length = 6 → ∃ x0 x1 x2 x3 x4 x5, l = [x0, x1, x2, x3, x4, x5]
  | [x0, x1, x2, x3, x4, x5], _ => ⟨x0, x1, x2, x3, x4, x5, rfl⟩
  | _ :: _ :: _ :: _ :: _ :: _ :: _ :: _, h => by simp only [List.length_cons] at h; omega
  | [], h => by simp at h
  | [_], h => by simp at h
  | [_, _], h => by simp at h
  | [_, _, _], h => by simp at h
  | [_, _, _, _], h => by simp at h
  | [_, _, _, _, _], h => by simp at h
open Go.Proofs.YtnjafgigldfcdabGreatDoor.Ab (laidL)
set_option maxRecDepth 100000 in
theorem door_met (os : Os) (args : Array Value) : laidMetH Tryz.prog laidL ((World.doorLaid Tryz.prog 400 os).forCall (fun _ _ => 0) ⟨#[], args, []⟩).memory :=
  laidMetH_of_parts3 (fuel := 8) (laidMet_of_run' 8 (by kernel_rfl) (by kernel_rfl)) (by kernel_rfl) (by kernel_rfl)
set_option maxRecDepth 100000 in
theorem lifted (os : Os) (started : os.Started) (H : Type) (enc : TypeId × Value → H) :
    ReturnsInHanded {} Tryz.checked os 3 .any (fun w args => (Rows.worldNoneSpec.pre enc Tryz.prog Tryz.f3 [] false w args ∧ laidMetH Tryz.prog laidL w) ∧ sizedMet enc Tryz.prog Tryz.f3 (OpenSpec.ofChange Rows.worldNoneSpec) false w args) (Rows.worldNoneSpec.post enc Tryz.prog Tryz.f3 false true false false) := by
  refine returnsInHanded_of_change_and (C := Tryz.checked) (X := fun w _ => laidMetH Tryz.prog laidL w) (fun _ _ _ hh h => h.of_heap hh) own started (by kernel_rfl) Tryz.func3
    (ChangeSpec.witness_shaped (enc := enc) (C := Tryz.checked) (os := os) (X := fun w _ => laidMetH Tryz.prog laidL w) false (World.doorLaid Tryz.prog 400 os) #[.agg #[.int .u8 0, .int .u8 0, .int .u8 0, .int .i64 0, .string ByteArray.empty, .slice none 0 0]] 8 rfl (World.shaped_of_RefB (by kernel_rfl) (by kernel_rfl)) (by kernel_rfl) (by kernel_rfl) (by kernel_rfl) (door_met os _)) ?_
  intro W base args ds gs before hval0 hW _ _ hlaid _
  have hval : ∀ (j : Nat) t v, Tryz.f3.params[j]? = some t → args[j]? = some v → Value.okWide Tryz.prog W .any base t v := hval0
  have hW' := hW
  obtain ⟨p, q, hA0, hV, rfl, hfz, hnd⟩ := hW
  have hA : DataW.TrodAll enc Tryz.prog W 0 (fun _ => true) true Tryz.f3.params.toList args.toList ds p := hA0
  rw [Tryz.params3] at hA hval
  obtain ⟨v0, vs0, d0, ds0, p0, q0, hargs, rfl, rfl, h0, r0⟩ := trodAll_cons hA
  obtain ⟨rfl, rfl, rfl⟩ := trodAll_nil r0
  obtain rfl : args = #[v0] := by cases args; simp_all
  obtain ⟨rfl, rfl⟩ := trodVars_none hV
  have k0 := h0
  have lt0 : ∀ x ∈ p0, x.block < W.heap.size := by obtain ⟨m, hm⟩ := k0; exact DataW.trod_lt m _ _ _ hm
  obtain ⟨l0, n0, rfl, hl0, hf0⟩ := open_agg2 Tryz.underlying24 6 (by kernel_rfl) (hval 0 24 v0 rfl rfl) h0
  obtain ⟨y0_f0, g0_f0⟩ := hf0 0 _ rfl
  obtain ⟨d0_0, e0_0, _, t0_0⟩ := leaf_cell 0 (by omega) g0_f0
  obtain ⟨y0_f1, g0_f1⟩ := hf0 1 _ rfl
  obtain ⟨d0_1, e0_1, _, t0_1⟩ := leaf_cell 1 (by omega) g0_f1
  obtain ⟨y0_f2, g0_f2⟩ := hf0 2 _ rfl
  obtain ⟨d0_2, e0_2, _, t0_2⟩ := leaf_cell 2 (by omega) g0_f2
  obtain ⟨y0_f3, g0_f3⟩ := hf0 3 _ rfl
  obtain ⟨d0_3, e0_3, _, t0_3⟩ := leaf_cell 3 (by omega) g0_f3
  obtain ⟨y0_f4, g0_f4⟩ := hf0 4 _ rfl
  obtain ⟨d0_4, e0_4, _, t0_4⟩ := leaf_cell 4 (by omega) g0_f4
  obtain ⟨y0_f5, g0_f5⟩ := hf0 5 _ rfl
  obtain ⟨d0_5, e0_5, _, t0_5⟩ := leaf_cell 5 (by omega) g0_f5
  obtain ⟨c0_0, c0_1, c0_2, c0_3, c0_4, c0_5, rfl⟩ := len6 (hl0.trans rfl)
  obtain rfl : c0_0 = _ := Option.some.inj e0_0
  obtain ⟨a0_0, z0_0, _, w0_0⟩ := DataW.trod_int Tryz.underlying5 t0_0
  obtain rfl : c0_0 = _ := (List.cons.inj z0_0).1
  obtain rfl : c0_1 = _ := Option.some.inj e0_1
  obtain ⟨a0_1, z0_1, _, w0_1⟩ := DataW.trod_int Tryz.underlying5 t0_1
  obtain rfl : c0_1 = _ := (List.cons.inj z0_1).1
  obtain rfl : c0_2 = _ := Option.some.inj e0_2
  obtain ⟨a0_2, z0_2, _, w0_2⟩ := DataW.trod_int Tryz.underlying5 t0_2
  obtain rfl : c0_2 = _ := (List.cons.inj z0_2).1
  obtain rfl : c0_3 = _ := Option.some.inj e0_3
  obtain ⟨a0_3, z0_3, _, w0_3⟩ := DataW.trod_int Tryz.underlying3 t0_3
  obtain rfl : c0_3 = _ := (List.cons.inj z0_3).1
  obtain rfl : c0_4 = _ := Option.some.inj e0_4
  obtain ⟨a0_4, z0_4, _, w0_4⟩ := DataW.trod_string Tryz.underlying9 t0_4
  obtain rfl : c0_4 = _ := (List.cons.inj z0_4).1
  obtain rfl : c0_5 = _ := Option.some.inj e0_5
  obtain ⟨mm, hlen⟩ : ∃ mm, LenAt W c0_5 mm := by
    rcases read_slice 10 Tryz.underlying22 (sh := [.ki .u8, .ki .i64, .ki .u8, .ki .i64]) (by kernel_rfl) (by kernel_rfl) (by decide) t0_5 with h | ⟨a, h⟩ | ⟨a, len, cap, rows, h, _, hs⟩
    · exact ⟨0, h ▸ .nil⟩
    · exact ⟨0, h ▸ .none a⟩
    · exact ⟨len, h ▸ .some a len cap hs.spot hs.le⟩
  clear hA0 hval0 hval
  refine (worldNone_walk a0_0 a0_1 a0_2 a0_3 a0_4.data.toList c0_5 W mm hlen hlaid).mono fun e W' ⟨he, bel⟩ => ?_
  subst he
  exact ⟨_, rfl, _, _, _, [], _, [], hW', trodAll_mk1 (shut_bool Tryz.underlying4 _), (trodAll_cons_mk (Below.trod laidOut (by kernel_rfl) (of_decide_eq_true (by kernel_rfl)) k0 bel lt0) trodAll_mk0), rfl, bel.frame _, fun h => by cases h⟩

theorem proved : Rows.WorldNoneSaid :=
  OpenClaim.holds_of_wide 3 Tryz.f3 rfl rfl rfl rfl rfl rfl rfl ⟨rfl, rfl, rfl, rfl, rfl⟩ rfl rfl rfl rfl rfl (by kernel_rfl) Tryz.func3 (by kernel_rfl)
    (of_decide_eq_true (by kernel_rfl)) (by unfold Func.isWrapper; first | (rw [if_pos (by decide +kernel)]; kernel_rfl) | (rw [if_neg (by decide +kernel)]; exact ⟨rfl, rfl⟩))
    (fun os started H enc _ => lifted os started H enc)
/-- The tied card. -/
theorem card : Rows.WorldNoneCardSaid :=
  Claim7.holds_tied_plain_at .later [] [.data, .data] true (true, "7d7841ebb54e8b49e37a5071cf60df4bb981d7f882a8c963371d66dc3f2800ab") true
    proved (fun _ h => by cases h) (by kernel_rfl) (fun _ h => by cases h) worldNone_row_tie rfl ⟨rfl, rfl⟩ (by kernel_rfl) rfl
    (fun f fn hf hfn => by
      obtain rfl : f = 3 := Option.some.inj ((show Tryz.prog.funcNamed "partyline/partylinelaw27.WorldNone" = some 3 by kernel_rfl).symm.trans hf) |>.symm
      obtain rfl : fn = Tryz.f3 := (Option.some.inj (Tryz.func3.symm.trans hfn)).symm
      exact ⟨by kernel_rfl, fun j t ht => by
        rw [Tryz.params3] at ht
        have hm : t ∈ [24] := by simpa using Array.mem_of_getElem? ht
        have hall : ([24].all fun u => !Tryz.prog.wantsStandIn u) = true := by kernel_rfl
        exact (show Tryz.prog.wantsStandIn t = false by simpa using List.all_eq_true.1 hall t hm)⟩)
    (by kernel_rfl)
#print axioms card
end Go.Proofs.YtnjafgigldfcdabGreatDoor.worldNone
