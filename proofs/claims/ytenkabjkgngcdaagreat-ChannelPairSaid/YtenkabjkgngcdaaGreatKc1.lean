import Derived.RangeFuncNested
set_option linter.unusedVariables false
set_option linter.unusedSimpArgs false
set_option linter.unusedSectionVars false
namespace Go.Proofs.YtenkabjkgngcdaaGreat
open Go Go.RowKit
variable {F : Fence} {n : Nat} {P : Program}
def xIF (B : Nat) (X : World → Prop) : Prop := ∀ W W' : World, KeepsFrom B W W' → X W → X W'
def xEo {α : Type} (F : Fence) (n : Nat) (P : Program) (l : Nat) (encs : α → Array Value) (Kp : World → World → Prop) (I : List α → World → Prop) (X : World → Prop) (N : Nat) : Prop :=
 ∀ (pre : List α) (x : α) (W : World), I pre W → X W → pre.length < N → YieldAt F n P l (encs x) W fun e W' => e = .returned (.bool true) ∧ I (pre ++ [x]) W' ∧ X W' ∧ Kp W W'
def xHj {α : Type} (F : Fence) (n : Nat) (P : Program) (gf : Nat) (lb : Array Value) (encs : α → Array Value) (Kp : World → World → Prop) (I : List α → World → Prop) (S : List α → Prop) (N B : Nat) (W : World) : Prop :=
 ∀ (l : Nat) (X : World → Prop) (W1 : World), Below W.heap.size W W1 → xIF B X → I [] W1 → X W1 → xEo F (n - 1) P l encs Kp I X N →
  CallsIn F n P gf (#[.func (.yield l) #[] #[]] ++ lb) W1 fun e W' => (∃ v, e = .returned v) ∧ ∃ xs, S xs ∧ I xs W' ∧ X W'
theorem zL1 {α : Type} {g : Operand} {ps : Array Tmp} {assign body : Code} {Q : Exit → Act → World → Prop} {a : Act} {w : World} (hro : F.round = none) (h1 : 1 ≤ n) {gf : Nat} {lb : Array Value}
  (hg : a.eval g = .func (.func gf) #[] lb) (hFg : F.fn gf) (eg : ∀ args w, (callFunc gf args).run P w = .ok (.enter gf args) w) {encs : α → Array Value} (hps : ∀ x, (encs x).size = ps.size)
  {Kp : World → World → Prop} (hKt : ∀ {A B C : World}, Kp A B → Kp B C → Kp A C) (hKp : ∀ (W : World) (l : Nat) (o : Obj), w.heap.size ≤ l → Kp W (W.putObj l o))
  (I : List α → World → Prop) (hnew : ∀ xs W o, I xs W → I xs (W.alloc o)) (hput : ∀ xs W l o o', I xs W → w.heap.size ≤ l → W.heap[l]? = some o → o.isCells = false → I xs (W.putObj l o'))
  (S : List α → Prop) (N : Nat) (hseq : xHj F (n - 1) P gf lb encs Kp I S N w.heap.size w) (h0 : I [] w) (a₁ : α → Act)
  (hassign : ∀ (l : Nat) (x : α) (W : World) (K : Act → World → Prop), K (a₁ x) W →
   assign.wpIn (F.inRound l) (n - 1 - 1) P (Exit.then K (fun _ _ _ => False)) { tmps := (ps.zip (encs x)).foldl (fun t (p, v) => t.setIfInBounds p v) a.tmps, defers := [] } W)
  (hbody : ∀ (l : Nat) (pre : List α) (x : α) (W : World), I pre W → pre.length < N → body.wpIn (F.inRound l) (n - 1 - 1) P (fun e _ W' => e = .normal ∧ KeepsFrom w.heap.size W W' ∧ Kp W W' ∧ I (pre ++ [x]) W') (a₁ x) W)
  (hdone : ∀ (D : Nat) (xs : List α) (W : World), w.heap.size ≤ D → S xs → I xs W → W.heap[D]? = some (.deferred (some [])) → Q .normal { a with defers := { target := .collected D, args := #[] } :: a.defers } W) :
  (Code.rangeFunc g ps assign body).wpIn F n P Q a w := by
 refine wpIn_rangeFunc fun fn hfn => ?_;rw [hro]
 let R : LoopState → Loop := fun st => { state := st, pending := none, fn, tmps := a.tmps, params := ps, assign, body, defers := w.heap.size }
 let W1 := (w.alloc (.deferred (some []))).alloc (.loop (R .ready))
 let X : World → Prop := fun W => W.heap[w.heap.size + 1]? = some (.loop (R .ready)) ∧ W.heap[w.heap.size]? = some (.deferred (some []))
 have x1 : X W1 := ⟨by have h := World.alloc_heap_new (w.alloc (.deferred (some []))) (.loop (R .ready)); rwa [World.size_alloc] at h, (Below.heap_alloc _ _ _ (by simp)).trans (World.alloc_heap_new w _)⟩
 have fX : xIF w.heap.size X := fun W W' hk hx => ⟨hk.same _ _ (by omega) hx.1 rfl, hk.same _ _ (Nat.le_refl _) hx.2 rfl⟩
 refine ⟨w.heap.size + 1, [{ target := .collected w.heap.size, args := #[] }], W1, { target := .fn (.func gf) lb, args := #[.func (.yield (w.heap.size + 1)) #[] #[]] }, W1, gf, #[.func (.yield (w.heap.size + 1)) #[] #[]] ++ lb, W1,
  run_enterLoop_outer _ _ _ _ _, ?_, fun f' hf' => ?_, by simp [invoke, go_sem, eg], fun _ => h1, ?_⟩
 ·simp only [resolve, hg];simp [go_sem]
 ·simp [Target.leads] at hf';subst hf';exact hFg
 ·refine (hseq (w.heap.size + 1) X W1 (((Below.refl _ w).alloc (Nat.le_refl _) _).alloc (by simp) _) fX (hnew _ _ _ (hnew _ _ _ h0)) x1 fun pre x W hi hx hlen => ?_).mono ?_
  ·have lt := (Array.getElem?_eq_some_iff.1 hx.1).1;refine ⟨fn, _, assign, body, run_yield (P := P) (args := encs x) hx.1 (hps x), roundIn_of_wpIn hfn (hassign _ x W _ ⟨_, run_beginRound hx.1 rfl, ?_⟩)⟩;refine wpIn_mono (hbody _ pre x _ (hput _ _ _ _ _ hi (by omega) hx.1 rfl) hlen) ?_
   rintro e a3 W3 ⟨rfl, hk, hp, hi3⟩
   have b3 : W3.heap[w.heap.size + 1]? = some (.loop (R .busy)) := hk.same _ _ (by omega) (World.putObj_heap_same lt) rfl
   have d3 : W3.heap[w.heap.size]? = some (.deferred (some [])) := hk.same _ _ (Nat.le_refl _) ((World.putObj_heap_other (by omega)).trans hx.2) rfl
   exact ⟨_, _, run_endRound (P := P) none b3, rfl, hput _ _ _ _ _ hi3 (by omega) b3 rfl, ⟨World.putObj_heap_same (Array.getElem?_eq_some_iff.1 b3).1, (World.putObj_heap_other (by omega)).trans d3⟩, hKt (hKt (hKp _ _ _ (by omega)) hp) (hKp _ _ _ (by omega))⟩
  ·rintro e W2 ⟨⟨v, rfl⟩, xs, hS, hi, hx⟩
   exact ⟨none, _, run_endLoop (P := P) hx.1 (by simp [R]), hdone _ xs _ (Nat.le_refl _) hS (hput _ _ _ _ _ hi (by omega) hx.1 rfl) ((World.putObj_heap_other (by omega)).trans hx.2)⟩
end Go.Proofs.YtenkabjkgngcdaaGreat
