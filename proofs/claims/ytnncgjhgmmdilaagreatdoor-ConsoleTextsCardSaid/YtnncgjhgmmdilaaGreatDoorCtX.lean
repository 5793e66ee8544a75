/-
  ConsoleTexts: where the package's variables lie, by what they read as.
  No condition beyond what each theorem states.
-/
import Derived.Test.YtnncgjhgmmdilaaGreatDoorCtU
import Derived.Test.YtnncgjhgmmdilaaGreatDoorRd
import Derived.Test.YtnncgjhgmmdilaaGreatDoorRows
import Derived.MakeChecks
namespace Go.Proofs.YtnncgjhgmmdilaaGreatDoor
set_option linter.unusedSimpArgs false
set_option linter.unusedVariables false
open Go Go.ChangeShapes Go.WideShapes Go.Proofs.YtnncgjhgmmdilaaGreatDoor.Ab
set_option linter.unusedSectionVars false
def laidL : List (String × DataW Unit) := Rows.consoleTextsRow.laid
theorem var_cells {w : World} {n : String} {g : Nat} {cs : Array Value} (hg : Tryz.prog.globalNamed n = some g) (h : w.var? Tryz.prog n = some cs) : ∃ e fz, w.heap[g]? = some (.cells cs e fz) := by
  unfold World.var? at h
  rw [hg] at h
  simp only [Option.bind_some] at h
  split at h
  · rename_i c e fz hc
    cases h
    exact ⟨e, fz, hc⟩
  · cases h
theorem cells_mk {w : World} {g : Nat} {c : Array Value} {k : IntKind} {l : List Int} (h : ∃ e fz, w.heap[g]? = some (.cells c e fz)) (hc : c.toList = l.map fun v => Value.int k v) : CellsAt w g k l := by
  obtain ⟨e, ⟨lo, hi⟩, hg⟩ := h
  refine ⟨c, e, lo, hi, hg, ?_, fun i n hn => ?_⟩
  · have := congrArg List.length hc
    simp at this; omega
  · rw [← Array.getElem?_toList, hc, List.getElem?_map, hn]; rfl
set_option maxRecDepth 100000 in
theorem g_pow : Tryz.prog.globalNamed "internal/strconv.uint64pow10" = some 5 := by kernel_rfl
set_option maxRecDepth 100000 in
theorem g_oct : Tryz.prog.globalNamed "partyline/field.octets" = some 6 := by kernel_rfl
set_option maxRecDepth 100000 in
theorem g_half : Tryz.prog.globalNamed "partyline/fcs.half" = some 9 := by kernel_rfl
set_option maxRecDepth 100000 in
theorem t_pow : (Tryz.prog.globals[5]?).map (·.type) = some 305 := by kernel_rfl
set_option maxRecDepth 100000 in
theorem t_oct : (Tryz.prog.globals[6]?).map (·.type) = some 379 := by kernel_rfl
set_option maxRecDepth 100000 in
theorem t_half : (Tryz.prog.globals[9]?).map (·.type) = some 433 := by kernel_rfl
theorem laid_plain (w : World) : laidMetH Tryz.prog laidL w = laidMet Tryz.prog laidL w := MakeChecks.laidMetH_plain _ _ _ (by kernel_rfl)
/-- The variables' blocks. -/
theorem laid_pins {w : World} (h : laidMetH Tryz.prog laidL w) : PinsAt w := by
  rw [laid_plain] at h
  obtain ⟨ps, hl, _, _⟩ := h
  obtain ⟨_, _, _, _, _, _, _, _, _, _, hl, _⟩ := hl
  obtain ⟨_, _, _, _, _, _, _, _, _, _, hl, _⟩ := hl
  obtain ⟨g1, t1, c1, f1, p1, q1, a1, a2, a3, a4, hl, _⟩ := hl
  obtain ⟨g2, t2, c2, f2, p2, q2, b1, b2, b3, b4, hl, _⟩ := hl
  obtain ⟨_, _, _, _, _, _, _, _, _, _, hl, _⟩ := hl
  obtain ⟨_, _, _, _, _, _, _, _, _, _, hl, _⟩ := hl
  obtain ⟨_, _, _, _, _, _, _, _, _, _, hl, _⟩ := hl
  obtain ⟨g3, t3, c3, f3, p3, q3, d1, d2, d3, d4, hl, _⟩ := hl
  rw [g_pow] at a1; cases a1
  rw [t_pow] at a2; cases a2
  rw [g_half] at b1; cases b1
  rw [t_half] at b2; cases b2
  rw [g_oct] at d1; cases d1
  rw [t_oct] at d2; cases d2
  exact ⟨cells_mk (var_cells g_pow a3) (laid_ints .u64 (vals := pow10L) Tryz.underlying305 Tryz.underlying211 (by kernel_rfl) (by kernel_rfl) a4),
    cells_mk (var_cells g_oct d3) (laid_ints .u8 (vals := octL) Tryz.underlying379 Tryz.underlying5 (by kernel_rfl) (by kernel_rfl) d4),
    cells_mk (var_cells g_half b3) (laid_ints .u8 (vals := halfL) Tryz.underlying433 Tryz.underlying5 (by kernel_rfl) (by kernel_rfl) b4)⟩
end Go.Proofs.YtnncgjhgmmdilaaGreatDoor
