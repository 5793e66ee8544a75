/-
  Plain facts for the frame of each law's proof: how a struct of one-cell fields that came in by value is opened; bounds out of a number's kind.
  No condition beyond what each theorem states.
-/
import Derived.Test.YtnncgjhgmmdilaaGreatDoorBase
import Derived.ProofKit
import Derived.OpenShut
import Derived.ShutString
import Derived.ChangeOld
import Derived.Below
import Derived.Carry
import Derived.Deep.Fields
import Derived.Lib.SmallJoins
namespace Go.Proofs.YtnncgjhgmmdilaaGreatDoor
set_option linter.unusedSimpArgs false
set_option linter.unusedVariables false
open Go.ChangeShapes Go.WideShapes Go.ChangeAt Go.RowKit Go.Deep

theorem own : ownKnob Tryz.prog.godebug = none := by kernel_rfl
theorem laidOut : laidOutB Tryz.prog = true := by kernel_rfl

section
variable {H : Type} {enc : TypeId × Value → H} {P : Program} {w : World} {base : Nat} {spare : Nat → Bool} {held : Bool}
theorem open_agg {r : Reach} {b0 : Nat} {t : TypeId} {fs : Array Field} {v : Value} {d : DataW H} {p : List MemPlace} (hs : P.underlying t = some (.struct fs)) (hone : oneCellFields P fs = true) (hC : P.cellsOf t = fs.size)
    (hv : Value.okWide P w r b0 t v) (h : DataW.Trod enc P w base spare held t v d p) :
    ∃ (l : List Value) (n : Nat), v = .agg l.toArray ∧ l.length = fs.size ∧ ∀ (j : Nat) (f : Field), fs[j]? = some f → ∃ (c : Value) (y : DataW H × List MemPlace), l[j]? = some c ∧ DataW.trod enc P w base spare held n f.type [c] = some y := by
  obtain ⟨cs, rfl, hsz⟩ := okWide_struct hs hv
  obtain ⟨l⟩ := cs
  have hl : l.length = fs.size := by simpa using hsz.trans hC
  obtain ⟨fuel, hf⟩ := h
  obtain ⟨xs, n, _, hx, _, hlen, hg⟩ := DataW.trod_struct hs hf
  refine ⟨l, n, rfl, hl, fun j f hj => ?_⟩
  obtain ⟨o, k⟩ := hone_of hone j f hj
  have hjl : j < fs.size := (Array.getElem?_eq_some_iff.1 hj).1
  have h1 := hg j f hj
  rw [o, k] at h1
  have hv : l[j]? = some (l[j]'(by omega)) := List.getElem?_eq_getElem (by omega)
  have hone' : (((Value.agg l.toArray).cells.toList.drop j).take 1) = [l[j]'(by omega)] := by
    simp only [Value.cells]
    rw [List.drop_eq_getElem_cons (by omega)]
    rfl
  rw [hone'] at h1
  have hys : xs[j]? = some (xs[j]'(by omega)) := List.getElem?_eq_getElem (by omega)
  exact ⟨_, _, hv, h1.trans hys⟩
/-- A struct that came in by value: its fields' cells. -/
theorem open_agg2 {r : Reach} {b0 : Nat} {t : TypeId} {fs : Array Field} {v : Value} {d : DataW H} {p : List MemPlace} (hs : P.underlying t = some (.struct fs)) (N : Nat) (hC : P.cellsOf t = N)
    (hv : Value.okWide P w r b0 t v) (h : DataW.Trod enc P w base spare held t v d p) :
    ∃ (l : List Value) (n : Nat), v = .agg l.toArray ∧ l.length = N ∧ ∀ (j : Nat) (f : Field), fs[j]? = some f → ∃ y : DataW H × List MemPlace, DataW.trod enc P w base spare held n f.type ((l.drop f.offset).take (P.cellsOf f.type)) = some y := by
  obtain ⟨cs, rfl, hsz⟩ := okWide_struct hs hv
  obtain ⟨l⟩ := cs
  have hl : l.length = N := by simpa using hsz.trans hC
  obtain ⟨fuel, hf⟩ := h
  obtain ⟨xs, n, _, hx, _, hlen, hg⟩ := DataW.trod_struct hs hf
  refine ⟨l, n, rfl, hl, fun j f hj => ?_⟩
  have hjl : j < fs.size := (Array.getElem?_eq_some_iff.1 hj).1
  have h1 := hg j f hj
  have hys : xs[j]? = some (xs[j]'(by omega)) := List.getElem?_eq_getElem (by omega)
  exact ⟨_, h1.trans hys⟩
/-- A field of one cell. -/
theorem leaf_cell {n : Nat} {t : TypeId} {l : List Value} {y : DataW H × List MemPlace} (o : Nat) (ho : o < l.length) (h : DataW.trod enc P w base spare held n t ((l.drop o).take 1) = some y) : ∃ c, l[o]? = some c ∧ ∃ y : DataW H × List MemPlace, DataW.trod enc P w base spare held n t [c] = some y := by
  have hone : (l.drop o).take 1 = [l[o]'ho] := by
    rw [List.drop_eq_getElem_cons ho]; rfl
  rw [hone] at h
  exact ⟨_, List.getElem?_eq_getElem ho, y, h⟩
/-- A field that is a struct of one-cell fields. -/
theorem sub_cells {n : Nat} {t : TypeId} {fs : Array Field} {l : List Value} {y : DataW H × List MemPlace} (o k : Nat) (hk : o + k ≤ l.length) (hs : P.underlying t = some (.struct fs)) (hone : oneCellFields P fs = true) (hN : fs.size = k)
    (h : DataW.trod enc P w base spare held n t ((l.drop o).take k) = some y) : ∀ (j : Nat) (f : Field), fs[j]? = some f → ∃ (m : Nat) (c : Value), l[o + j]? = some c ∧ ∃ y : DataW H × List MemPlace, DataW.trod enc P w base spare held m f.type [c] = some y := by
  obtain ⟨xs, m, _, _, _, hlen, hg⟩ := DataW.trod_struct hs h
  intro j f hj
  have hjl : j < fs.size := (Array.getElem?_eq_some_iff.1 hj).1
  obtain ⟨o1, k1⟩ := hone_of hone j f hj
  have h1 := hg j f hj
  rw [o1, k1] at h1
  have hys : xs[j]? = some (xs[j]'(by omega)) := List.getElem?_eq_getElem (by omega)
  rw [hys] at h1
  have hll : j < ((l.drop o).take k).length := by rw [List.length_take, List.length_drop]; omega
  obtain ⟨c, hc, hy⟩ := leaf_cell j hll h1
  refine ⟨m, c, ?_, hy⟩
  rw [List.getElem?_take, List.getElem?_drop] at hc
  split at hc
  · exact hc
  · cases hc
end
end Go.Proofs.YtnncgjhgmmdilaaGreatDoor
