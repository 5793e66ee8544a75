/-
  ConsoleTexts: the line that is none: it panics, its deferred call takes that up and says so.
  Conditions: as each theorem tells.
-/
import Derived.Test.YtnncgjhgmmdilaaGreatDoorBase
import Derived.Test.YtnncgjhgmmdilaaGreatDoorDfr
import Derived.Defers
import Derived.Recover
import Derived.Laws.Pointers
namespace Go.Proofs.YtnncgjhgmmdilaaGreatDoor
set_option linter.unusedSimpArgs false
set_option linter.unusedVariables false
open Go Go.RowKit
set_option linter.unusedSectionVars false
set_option linter.unusedVariables false
abbrev fL1 : FuncId := 20
abbrev fLine : FuncId := 15
abbrev fDone : FuncId := 21
abbrev fNext : FuncId := 22
abbrev fSplit : FuncId := 14
theorem line1_idle (x : Value) (w : World) : CallsD Tryz.prog fL1 #[x] .returning w fun e u' w' => (∃ v, e = .returned v) ∧ u' = .returning ∧ w' = w := by
  refine callsD_of_wpS Tryz.func20 rfl fun c₀ cs hu => ?_
  apply wpS_seq
  apply wpS_region
  simp [wpOpsS, go_sem, recoverD, hu, Tryz.ntmps20, Exit.thenS]
  apply wpS_seq
  apply wpS_region
  simp [wpOpsS, go_sem, recoverD, hu, Exit.thenS]
  refine wpS_cond (t := false) (by simp [Act.eval, Array.replicate]) ?_
  simp only [Bool.false_eq_true, if_false]
  refine wpS_of_wp (wp_skip ?_)
  cases c₀
  simp_all [bodyPostS, results, Tryz.results20]
set_option maxRecDepth 100000 in
theorem line1_catch {R : World → Prop} (b : Nat) (p : Value) (older : List PanicEntry) (w : World) (hc : w.cell? ⟨b, 0, none⟩ = some p) (hd : Calls Tryz.prog fDone #[p, .int .i64 300] w fun e w' => e = .returned (.tuple #[]) ∧ R w') :
    CallsD Tryz.prog fL1 #[.pointer (some ⟨b, 0, none⟩)] (.panicking ({ v := .iface 48 (.agg #[]), recovered := false } :: older)) w fun e u' w' =>
      e = .returned (.tuple #[]) ∧ u' = .panicking ({ v := .iface 48 (.agg #[]), recovered := true } :: older) ∧ R w' := by
  have hta : ∀ w, (Instr.typeAssert (.iface 48 (.agg #[])) 20 48 false).run Tryz.prog w = .ok (.agg #[]) w := fun w => by kernel_rfl
  refine callsD_of_wpS Tryz.func20 rfl fun c₀ cs hu => ?_
  apply wpS_seq
  apply wpS_region
  simp [wpOpsS, go_sem, recoverD, hu, Tryz.ntmps20, Exit.thenS]
  apply wpS_seq
  apply wpS_region
  simp [wpOpsS, go_sem, recoverD, hu, Exit.thenS]
  refine wpS_cond (t := true) (by simp [Act.eval, Array.replicate]) ?_
  simp only [if_true]
  refine wpS_of_wp ?_
  go_wp2_with (go_at_call 21; refine hd.mono ?_; rintro e w' ⟨rfl, hR⟩)
  cases c₀
  simp_all [bodyPostS, results, Tryz.results20]
/-- A line's words, of one word. -/
theorem next_one (rb b o : Nat) (s : List UInt8) (w : World) (hr : w.cell? ⟨rb, 0, none⟩ = some (.slice (some ⟨b, o, none⟩) 1 1)) (hf : w.frozen? ⟨rb, 0, none⟩ = false) (hs : w.cell? ⟨b, o, none⟩ = some (.string (S s))) :
    Calls Tryz.prog fNext #[.pointer (some ⟨rb, 0, none⟩)] w fun e w' => e = .returned (.string (S s)) ∧ ∃ v, w' = w.setCell ⟨rb, 0, none⟩ v := by
  go_enter Tryz.func22, Tryz.ntmps22
  go_wp2
  go_end0
  go_wp2
  go_ret
  exact ⟨by simp, ⟨_, rfl⟩⟩
set_option maxRecDepth 100000 in
set_option maxHeartbeats 1000000 in
/-- A line of one word that is no line's. -/
theorem line_odd {R : World → Prop} (s : List UInt8) (p : Addr) (w : World) (h1 : (s == [110, 101, 119]) = false) (h2 : (s == [116, 105, 99, 107]) = false) (h3 : (s == [97]) = false) (h4 : (s == [98]) = false)
    (hsplit : ∀ w1, Calls Tryz.prog fSplit #[.string (S s), .string ⟨#[32]⟩] w1 fun e w2 => ∃ b o, e = .returned (.slice (some ⟨b, o, none⟩) 1 1) ∧ b < w2.heap.size ∧ w2.cell? ⟨b, o, none⟩ = some (.string (S s)) ∧ Below w1.heap.size w1 w2)
    (hdone : ∀ w1, Below w.heap.size w w1 → Calls Tryz.prog fDone #[.pointer (some p), .int .i64 300] w1 fun e w2 => e = .returned (.tuple #[]) ∧ R w2) :
    Calls Tryz.prog fLine #[.pointer (some p), .string (S s)] w fun e w' => e = .returned (.tuple #[]) ∧ R w' := by
  have hmf : ∀ (fn : Fn) (first cap : Array Value) (w : World), (Instr.makeFunc fn first cap).run Tryz.prog w = .ok (.func fn first cap) w := fun _ _ _ _ => rfl
  go_enter_defers Tryz.func15, Tryz.ntmps15
  go_wp2_with (go_at_call 14; refine (hsplit _).mono ?_; rintro e w2 ⟨b, o, rfl, hb, hc, bel⟩)
  have hb0 : w.heap.size < w2.heap.size := by
    have := bel.size
    simp at this; omega
  refine (next_one w2.heap.size b o s _ (cell_new _ _ _ 0 _ rfl rfl) (by simp [go_sem]) (by rw [World.cell?_alloc_past _ _ _ hb]; exact hc)).mono ?_
  rintro e w3 ⟨rfl, v3, rfl⟩
  go_wp2
  have hbel : Below w.heap.size w w2 := bchain bel (balloc (Below.refl _ w))
  have hc0 : w2.cell? ⟨w.heap.size, 0, none⟩ = some (.pointer (some p)) := keepc bel (cell_new w _ _ 0 _ rfl rfl)
  refine leaves_cons (f := fL1) (args := #[.pointer (some ⟨w.heap.size, 0, none⟩)]) (by simp) (by simp [go_sem]) ?_
  refine (line1_catch w.heap.size (.pointer (some p)) [] _ ?_ (hdone _ ?_)).mono ?_
  · rw [World.cell?_alloc_past _ _ _ hb0]; exact hc0
  · exact hbel.alloc hbel.size _
  rintro e u' w'' ⟨rfl, rfl, hR⟩
  simp [Leaves, settle, results, Tryz.results15, go_sem]
  exact hR
end Go.Proofs.YtnncgjhgmmdilaaGreatDoor
