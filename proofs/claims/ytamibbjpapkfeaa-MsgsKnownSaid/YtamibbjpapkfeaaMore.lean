/-
  More plain facts on worlds: a store into a block of the call's own.
  No condition beyond what each theorem states.
-/
import Derived.Test.YtamibbjpapkfeaaRegion
namespace Go.Proofs.Ytamibbjpapkfeaa
set_option linter.unusedSimpArgs false
set_option linter.unusedVariables false
open Go.RowKit
theorem bset {w c : World} {p : Addr} {v : Value} (h : Below w.heap.size w c) (hp : w.heap.size ≤ p.block) : Below w.heap.size w (c.setCell p v) := h.setCell hp v

/-- Two results, the first one a struct that lies in memory. -/
theorem results_cell2 {P : Program} {fn : Func} {c t : Tmp} {T : TypeId} (h : fn.results = #[.cell c T, .tmp t]) (tmps : Array Value) (w : World) (a : Addr) (hc : tmps.getD c undef = .pointer (some a)) (v2 : Value) (h2 : tmps.getD t undef = v2) (v : Value) (hl : (loadVar T a).run P w = .ok v w) :
    (results fn tmps).run P w = .ok (.tuple #[v, v2]) w := by
  subst h2
  have hc' : tmps[c]?.getD undef = .pointer (some a) := by simpa using hc
  simp [results, h, hc', hl, asAddr]
/-- One result, a struct that lies in memory. -/
theorem results_cell1 {P : Program} {fn : Func} {c : Tmp} {T : TypeId} (h : fn.results = #[.cell c T]) (tmps : Array Value) (w : World) (a : Addr) (hc : tmps.getD c undef = .pointer (some a)) (v : Value) (hl : (loadVar T a).run P w = .ok v w) :
    (results fn tmps).run P w = .ok v w := by
  have hc' : tmps[c]?.getD undef = .pointer (some a) := by simpa using hc
  simp [results, h, hc', hl, asAddr]
/-- A block of cells behind a store into it, into another one, behind a draw, a new block, a call. -/
theorem hset {w : World} {g j : Nat} {v : Value} {cs : Array Value} {t : TypeId} {fr : Nat × Nat} (h : w.heap[g]? = some (.cells cs t fr)) : (w.setCell ⟨g, j, none⟩ v).heap[g]? = some (.cells (cs.setIfInBounds j v) t fr) := by
  simp [World.setCell, Array.getElem?_modify, h]
theorem hset_ne {w : World} {g g' j : Nat} {v : Value} {o : Obj} (hne : g' ≠ g) (h : w.heap[g]? = some o) : (w.setCell ⟨g', j, none⟩ v).heap[g]? = some o := by
  simp [World.setCell, Array.getElem?_modify, h, hne]
theorem hdrew {w : World} {g n : Nat} {o : Obj} (h : w.heap[g]? = some o) : (w.drewN n).heap[g]? = some o := h
theorem halloc {w : World} {g : Nat} {o o' : Obj} (h : w.heap[g]? = some o) : (w.alloc o').heap[g]? = some o := by
  rw [Below.heap_alloc w o' g ((Array.getElem?_eq_some_iff.1 h).1)]; exact h
theorem hnew {w : World} {g : Nat} {o : Obj} (hg : g = w.heap.size) : (w.alloc o).heap[g]? = some o := by
  subst hg; exact heap_alloc_new w o
theorem hcall {W w1 : World} {g : Nat} {o : Obj} (hb : Below W.heap.size W w1) (h : W.heap[g]? = some o) : w1.heap[g]? = some o := by
  rw [hb.block g ((Array.getElem?_eq_some_iff.1 h).1)]; exact h
theorem cell_drewN {W : World} {a : Addr} {v : Value} {n : Nat} (h : W.cell? a = some v) : (W.drewN n).cell? a = some v := h
theorem cell_alloc {W : World} {a : Addr} {v : Value} {o : Obj} (h : W.cell? a = some v) : (W.alloc o).cell? a = some v := by
  exact (World.cell?_alloc_lt W o a (World.block_lt_of_cell? W a h)).trans h
end Go.Proofs.Ytamibbjpapkfeaa
