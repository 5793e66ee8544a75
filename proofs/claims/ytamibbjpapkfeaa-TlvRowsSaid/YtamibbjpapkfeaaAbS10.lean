import Derived.Test.YtamibbjpapkfeaaAbS9
namespace Go.Proofs.Ytamibbjpapkfeaa.Ab
set_option linter.unusedSimpArgs false
set_option linter.unusedVariables false
open Go
set_option linter.unusedSectionVars false
variable [Rho]
section
variable {P : Program}

theorem makeSliceA_run {t : TypeId} {l c v : AV} {H H' : Heap} (h : makeSliceA P t l c H = some (v, H')) {μ : Mu} {w : World} (r : Rep μ H.get w) (d : Dom μ H.next) {cl cc : Value} (hl : VR μ l cl) (hc : VR μ c cc) :
    ∃ μ' y w', (Instr.makeSlice t cl cc).run P w = .ok y w' ∧ VR μ' v y ∧ Evo μ H.get H.next w μ' H'.get H'.next w' := by
  unfold makeSliceA at h
  split at h
  · rename_i e k1 n k2 m hu
    cases hl; cases hc
    split at h
    · rename_i by' z hby hz
      split at h
      · rename_i hb
        obtain ⟨b1, b2, b3, b4, b5⟩ := hb
        cases h
        obtain ⟨i, hi, hib⟩ := bytesOf_run hby
        obtain ⟨zv, k, z1, z2, z3, z4, z5⟩ := zerosA_run hz μ w
        have hti : ∀ w, (typeInfo e).run P w = .ok i w := fun w => run_typeInfo w hi
        have w1 : IntKind.i64.wrap n = n := by simp [IntKind.wrap, IntKind.bits, IntKind.signed]; omega
        have w2 : IntKind.i64.wrap m = m := by simp [IntKind.wrap, IntKind.bits, IntKind.signed]; omega
        have hbig : (i.bytes : Int) * m ≤ 1024 * 4294967296 := Int.mul_le_mul (by omega) b3 (by omega) (by omega)
        have hcond : ¬ ((decide (m < 0) || decide ((i.bytes : Int) * m > 2 ^ 48)) = true ∨ decide (n < 0) = true ∨ decide (n > m) = true) := by simp; omega
        have he := new_cells r d z5 b5 e (flats z)
        refine ⟨_, .slice (some ⟨w.heap.size, 0, none⟩) n.toNat m.toNat, _, ?_, ⟨⟨w.heap.size, 0, z.length, 1, z.length⟩, by simp [setMu], rfl⟩, he⟩
        have hz' := made_eq zv.cells k m.toNat z3 z4
        have hif : (((decide (m < 0) || decide ((i.bytes : Int) * m > 2 ^ 48)) || decide (n < 0)) || decide (n > m)) = false := by simp; omega
        simp only [Instr.makeSlice, Sem.run_bind, run_underlying hu, Result.andThen_ok, asInt, asIntOf, Sem.run_pure, hti, w1, w2]
        simp only [hif, Bool.false_eq_true, if_false, Sem.run_bind, run_askRoom, Result.andThen_ok, szOf_run z2]
        by_cases h0 : m.toNat * k = 0
        · have hm0 : m.toNat = 0 := by
            rcases Nat.mul_eq_zero.1 h0 with h | h
            · exact h
            · omega
          simp only [if_pos h0, Sem.run_bind, Sem.run_pure, Result.andThen_ok]
          rw [hm0]
          have e1 : ∀ g : Nat → Value, Array.map g (Array.range 0) = #[] := fun g => Array.eq_empty_of_size_eq_zero (by simp)
          simp [newRow, e1]
        · simp only [if_neg h0, Sem.run_bind, z1, Sem.run_pure, Result.andThen_ok]
          have e2 : (Array.range (m.toNat * k)).map (fun i => zv.cells[i % zv.cells.size]!) = (List.flatten (List.replicate m.toNat zv.cells.toList)).toArray := by
            apply Array.ext'; rw [hz']
          rw [e2]
          simp [newRow]
      · cases h
    · cases h
  · cases h
theorem typeAssertA_run {x v : AV} {xt as_ : TypeId} {ok : Bool} (h : typeAssertA P x as_ ok = some v) {μ : Mu} {c : Value} (hx : VR μ x c) (w : World) : ∃ y, (Instr.typeAssert c xt as_ ok).run P w = .ok y w ∧ VR μ v y := by
  have holds : ∀ (u : AV) (cu : Value), VR μ u cu → some (if ok then AV.tuple [u, .bool true] else u) = some v → VR μ v (if ok then .tuple #[cu, .bool true] else cu) := fun u cu hu e => by
    cases e
    cases ok
    · exact hu
    · exact ⟨[cu, .bool true], ⟨cu, [.bool true], hu, ⟨.bool true, [], rfl, rfl, rfl⟩, rfl⟩, rfl⟩
  have fails : (if ok then match zeroA P as_ with | some z => some (AV.tuple [z, .bool false]) | none => none else none) = some v → ok = true ∧ ∃ z, (zeroValue as_).run P w = .ok z w ∧ VR μ v (.tuple #[z, .bool false]) := fun e => by
    cases ok with
    | false => simp at e
    | true =>
      simp only [if_true] at e
      split at e
      · rename_i z hz
        cases e
        obtain ⟨cz, h1, h2⟩ := zeroA_run hz w
        exact ⟨rfl, cz, h1, [cz, .bool false], ⟨cz, [.bool false], ofV_VR μ cz z h2, ⟨.bool false, [], rfl, rfl, rfl⟩, rfl⟩, rfl⟩
      · cases e
  unfold typeAssertA at h
  simp only at h
  split at h
  · rename_i ms hu
    cases hx
    obtain ⟨rfl, z, h1, h2⟩ := fails h
    exact ⟨_, by simp only [Instr.typeAssert, Sem.run_bind, run_underlying hu, Result.andThen_ok, if_true, h1, Sem.run_pure], h2⟩
  · rename_i want t u hu
    split at h
    · rename_i i hi
      obtain ⟨cu, hcu, rfl⟩ := hx
      have hti : ∀ w, (typeInfo t).run P w = .ok i w := fun w => run_typeInfo w hi
      split at h
      · rename_i hm
        refine ⟨_, ?_, holds (.iface t u) (.iface t cu) ⟨cu, hcu, rfl⟩ h⟩
        simp only [Instr.typeAssert, Sem.run_bind, run_underlying hu, Result.andThen_ok, hti, hm, Sem.run_pure]
      · rename_i m hm
        obtain ⟨rfl, z, h1, h2⟩ := fails h
        exact ⟨_, by simp only [Instr.typeAssert, Sem.run_bind, run_underlying hu, Result.andThen_ok, hti, hm, if_true, h1, Sem.run_pure], h2⟩
    · cases h
  · rename_i dd hni hu
    cases hx
    obtain ⟨rfl, z, h1, h2⟩ := fails h
    refine ⟨_, ?_, h2⟩
    simp only [Instr.typeAssert, Sem.run_bind, run_underlying hu, Result.andThen_ok]
    cases dd <;> first | (exact absurd rfl (hni _)) | (simp only [if_true, Sem.run_bind, h1, Result.andThen_ok, Sem.run_pure])
  · rename_i dd t u hni hu
    obtain ⟨cu, hcu, rfl⟩ := hx
    split at h
    · rename_i ht
      refine ⟨_, ?_, holds u cu hcu h⟩
      simp only [Instr.typeAssert, Sem.run_bind, run_underlying hu, Result.andThen_ok]
      cases dd <;> first | (exact absurd rfl (hni _)) | (simp only [if_pos ht, Sem.run_pure])
    · rename_i ht
      obtain ⟨rfl, z, h1, h2⟩ := fails h
      refine ⟨_, ?_, h2⟩
      simp only [Instr.typeAssert, Sem.run_bind, run_underlying hu, Result.andThen_ok]
      cases dd <;> first | (exact absurd rfl (hni _)) | (simp only [if_neg ht, if_true, Sem.run_bind, h1, Result.andThen_ok, Sem.run_pure])
  · cases h
end
end Go.Proofs.Ytamibbjpapkfeaa.Ab
