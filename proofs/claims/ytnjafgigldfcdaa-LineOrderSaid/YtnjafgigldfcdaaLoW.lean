/-
  LineOrder, called: it returns true and makes at most new blocks; what its argument reads as.
  Conditions: as each theorem tells.
-/
import Derived.Test.YtnjafgigldfcdaaLoK
namespace Go.Proofs.Ytnjafgigldfcdaa
set_option linter.unusedSimpArgs false
set_option linter.unusedVariables false
open Go Go.ChangeShapes Go.WideShapes Go.Proofs.Ytnjafgigldfcdaa.Ab
set_option linter.unusedSectionVars false
theorem least {p : Nat → Prop} [DecidablePred p] : ∀ n : Nat, (∃ k, k < n ∧ ¬ p k) → ∃ b, b < n ∧ ¬ p b ∧ ∀ k, k < b → p k
  | 0, h => by obtain ⟨k, hk, _⟩ := h; omega
  | n + 1, h => by
    by_cases h1 : ∃ k, k < n ∧ ¬ p k
    · obtain ⟨b, h2, h3, h4⟩ := least n h1
      exact ⟨b, by omega, h3, h4⟩
    · obtain ⟨k, hk, hp⟩ := h
      refine ⟨n, by omega, ?_, fun k hk => ?_⟩
      · have : k = n := by
          rcases Nat.lt_or_ge k n with h | h
          · exact absurd ⟨k, h, hp⟩ h1
          · omega
        exact this ▸ hp
      · by_cases hpk : p k
        · exact hpk
        · exact absurd ⟨k, hk, hpk⟩ h1
theorem lineOrder_walk (v : Value) (w : World) (h : v = .slice none 0 0 ∨ ∃ a len cap rows, v = .slice (some a) len cap ∧ CallsAt w a len cap rows) :
    Calls Try.prog fLaw #[v] w fun e w' => e = .returned (.bool true) ∧ RowKit.Below w.heap.size w w' := by
  rcases h with rfl | ⟨a, len, cap, rows, rfl, hc⟩
  · letI ρ : Rho := ⟨fun _ => .dI 0, fnLo⟩
    exact call_true (evFun_ok noCount (env_of (ρ := ρ) (l := [(fWorks, trueC)]) ⟨true_CG works12, trivial⟩) 1000) (args := [.nilSlice]) (Tree.allT_ok _ lawN_ok) (cargs := [.slice none 0 0]) ⟨_, _, rfl, rfl, rfl⟩ w
  · by_cases hn : len ≤ 40
    · by_cases hg : ∃ k, k < len ∧ ¬ goodR (.dL rows) k
      · obtain ⟨b, b1, b2, b3⟩ := least len hg
        letI ρ : Rho := ⟨fun _ => .dL rows, fnLo⟩
        obtain ⟨μ, r, d, hv⟩ := hc.rep ρ rfl hn
        have hl : (ρ.val 0).asL.length = len := hc.n
        have he := lpLw_ok (ρ := ρ) (gFwR_ok (ρ := ρ) (by rw [hl]; exact hn) (b := b) (by rw [hl]; exact b1) b2 b3) (dead_ok ρ _ _) (dead_ok ρ _ _) rfl
        exact call_true_at (evFun_ok noCount he 1000) (f := fLaw) (args := [argC]) (H := HC) rfl hc_ro (Tree.allT_ok _ lawB_ok) (μ := μ) (cargs := [.slice (some a) len cap]) ⟨_, _, hv, rfl, rfl⟩ r d
      · have h12 : Calls12 (.dL rows) := by
          refine ⟨by show rows.length ≤ 40; rw [hc.n]; exact hn, fun k hk => ?_, fun k hk => ?_, hc.rows_ok rfl⟩
          · have hk : k < rows.length := hk
            rw [hc.n] at hk
            by_cases hp : goodR (.dL rows) k
            · exact hp.1
            · exact absurd ⟨k, hk, hp⟩ hg
          · have hk : k < rows.length := hk
            rw [hc.n] at hk
            by_cases hp : goodR (.dL rows) k
            · exact hp.2
            · exact absurd ⟨k, hk, hp⟩ hg
        letI ρ : Rho := rhoF (.dL rows)
        obtain ⟨μ, r, d, hv⟩ := hc.rep ρ rfl hn
        have he := lpLw_ok (ρ := ρ) (gFwE_ok (ρ := ρ) h12.n fun k hk => ⟨h12.s k hk, h12.d k hk⟩) (gMn_ok h12) (gEn_ok h12) rfl
        exact call_true_at (evFun_ok noCount he 1000) (f := fLaw) (args := [argC]) (H := HC) rfl hc_ro (lawE_ok h12) (μ := μ) (cargs := [.slice (some a) len cap]) ⟨_, _, hv, rfl, rfl⟩ r d
    · letI ρ : Rho := ⟨fun _ => .dI (len : Int), fnLo⟩
      have he := lpLw_ok (ρ := ρ) (dead_ok ρ _ _) (dead_ok ρ _ _) (dead_ok ρ _ _) rfl
      have hok : Tree.ok lawL := by
        have := lawL_chk
        generalize lawL = t at this
        unfold lawL' at this
        split at this
        · rename_i c x y
          rw [Bool.and_eq_true] at this
          refine ⟨fun _ => Tree.allT_ok _ this.2, fun hf => ?_⟩
          rw [Tm.eqv_eq _ _ this.1] at hf
          have hf : decide ((len : Int) > 40) = false := hf
          have := of_decide_eq_false hf
          omega
        · cases this
      let μ : Mu := fun id => if id = 0 then some (locOf a cap 4) else none
      refine call_true_at (evFun_ok noCount he 1000) (f := fLaw) (args := [.sslice 0 4 (.ci 0) (.var 0)]) (H := HL) rfl (fun id o ho => (by cases ho)) hok (μ := μ) (cargs := [.slice (some a) len cap])
        ⟨_, _, sslice_VR (by decide) hc.spot hc.le rfl rfl, rfl, rfl⟩ ⟨fun id o ho => (by cases ho), fun i j oi oj li lj h1 => (by cases h1)⟩ (fun id hid => ?_)
      have hid : 1 ≤ id := hid
      show (if id = 0 then _ else none) = none
      rw [if_neg (by omega)]
/-! ### what the argument reads as -/
section
variable {H : Type} {enc : TypeId × Value → H} {w : World}
/-- A slice of plain elements, wherever it is read. -/
theorem read_slice {t e : TypeId} {sh : List Kd} {fuel : Nat} {v : Value} {x : DataW H × List MemPlace} (n : Nat) (ht : Try.prog.underlying t = some (.slice e)) (hsh : flatK Try.prog n e = some sh) (hk : Try.prog.cellsOf e = sh.length) (h0 : 0 < sh.length)
    (hx : DataW.trod enc Try.prog w 0 (fun _ => true) true fuel t [v] = some x) : v = .slice none 0 0 ∨ (∃ a, v = .slice (some a) 0 0) ∨ ∃ a len cap rows, v = .slice (some a) len cap ∧ len ≤ maxLen ∧ SliceAt w a len cap sh rows := by
  rcases DataW.trod_slice ht hx with ⟨h1, _⟩ | ⟨a, len, cap, elems, rest, m, _, hcs, _, _, hl, hm, hlen, hel, hsp, _⟩
  · left; simpa using h1
  · right
    have hv : v = .slice (some a) len cap := by simpa using hcs
    subst hv
    by_cases hc0 : cap = 0
    · left
      obtain rfl : len = 0 := by omega
      subst hc0
      exact ⟨a, rfl⟩
    · right
      obtain ⟨hr1, hr2⟩ := hsp rfl
      -- the first element, or the first one behind, can be read
      have hfirst : ∃ cs, w.cells? 0 a (Try.prog.cellsOf e) = some cs := by
        by_cases hl0 : 0 < len
        · have := hel 0 hl0
          rw [List.getElem?_eq_getElem (by omega), Option.bind_eq_some_iff] at this
          obtain ⟨cs, h2, _⟩ := this
          exact ⟨cs, by simpa [Addr.add] using h2⟩
        · obtain rfl : len = 0 := by omega
          have := hr2 0 (by omega)
          rw [List.getElem?_eq_getElem (by omega), Option.bind_eq_some_iff] at this
          obtain ⟨cs, h2, _⟩ := this
          exact ⟨cs, by simpa [Addr.add] using h2⟩
      obtain ⟨cs0, hcs0⟩ := hfirst
      obtain ⟨_, hcl0, hat0⟩ := World.cells?_some hcs0
      have hc0' := hat0 0 (by rw [hk]; exact h0)
      have hadd0 : a.add 0 = a := rfl
      rw [hadd0] at hc0'
      obtain ⟨y0, hy0⟩ : ∃ y, cs0[0]? = some y := ⟨_, List.getElem?_eq_getElem (by rw [hcl0, hk]; exact h0)⟩
      rw [hy0] at hc0'
      obtain ⟨c, e0, fz, hc⟩ : ∃ c e0 fz, w.heap[a.block]? = some (.cells c e0 fz) := by
        unfold World.cell? at hc0'
        split at hc0'
        · rename_i c el fz hc; exact ⟨c, el, fz, hc⟩
        · cases hc0'
      have hspot : a.spot = none := by
        unfold World.cell? at hc0'
        rw [hc] at hc0'
        simp only at hc0'
        cases hsq : a.spot with
        | none => rfl
        | some q => rw [hsq] at hc0'; simp at hc0'
      obtain ⟨lo, hi⟩ := fz
      have hrow : ∀ i, i < len → ∃ row, ∃ cs, w.cells? 0 (a.add (i * Try.prog.cellsOf e)) (Try.prog.cellsOf e) = some cs ∧ RowK sh row cs := fun i hi' => by
        have h1 := hel i hi'
        rw [List.getElem?_eq_getElem (by omega), Option.bind_eq_some_iff] at h1
        obtain ⟨cs, h2, h3⟩ := h1
        obtain ⟨row, h4⟩ := trod_flat n hsh h3
        exact ⟨row, cs, h2, h4⟩
      refine ⟨a, len, cap, (List.range len).map fun i => if h : i < len then Classical.choose (hrow i h) else [], rfl, by omega, ⟨hspot, hl, by simp, ⟨c, e0, lo, hi, hc, fun i hi' j kd hj => ?_⟩, fun i hi' j kd hj => ?_, fun i hi' => ?_⟩⟩
      all_goals
        have hget : ((List.range len).map fun i => if h : i < len then Classical.choose (hrow i h) else []).getD i [] = Classical.choose (hrow i hi') := by
          simp [List.getD_eq_getElem?_getD, hi']
        obtain ⟨cs, h2, h3⟩ := Classical.choose_spec (hrow i hi')
        rw [hget]
      · obtain ⟨_, hcl, h4⟩ := World.cells?_some h2
        have hjl := (List.getElem?_eq_some_iff.1 hj).1
        have h5 := h4 j (by rw [hk]; exact hjl)
        rw [(h3.get j kd hj).1] at h5
        have hadd : (a.add (i * Try.prog.cellsOf e)).add j = ⟨a.block, a.off + (i * sh.length + j), none⟩ := by
          obtain ⟨b, o, s⟩ := a
          simp only at hspot
          subst hspot
          rw [hk]
          unfold Addr.add
          by_cases h6 : i * sh.length = 0
          · by_cases h7 : j = 0
            · simp [h6, h7]
            · simp [h6, h7]
          · by_cases h7 : j = 0
            · simp [h6, h7]
            · simp [h6, h7, Nat.add_assoc]
        rw [hadd] at h5
        unfold World.cell? at h5
        simp only [hc] at h5
        simpa using h5
      · exact (h3.get j kd hj).2
      · exact h3.len.1
/-- The calls. -/
theorem read_calls {fuel : Nat} {v : Value} {x : DataW H × List MemPlace} (hx : DataW.trod enc Try.prog w 0 (fun _ => true) true fuel 22 [v] = some x) : v = .slice none 0 0 ∨ (∃ a, v = .slice (some a) 0 0) ∨ ∃ a len cap rows, v = .slice (some a) len cap ∧ CallsAt w a len cap rows := by
  have hk : Try.prog.cellsOf 30 = 4 := by kernel_rfl
  rcases DataW.trod_slice Try.underlying22 hx with ⟨h1, _⟩ | ⟨a, len, cap, elems, rest, m, _, hcs, _, _, hl, hm, hlen, hel, hsp, _⟩
  · left; simpa using h1
  · right
    have hv : v = .slice (some a) len cap := by simpa using hcs
    subst hv
    by_cases hc0 : cap = 0
    · left
      obtain rfl : len = 0 := by omega
      subst hc0
      exact ⟨a, rfl⟩
    · right
      obtain ⟨hr1, hr2⟩ := hsp rfl
      have hfirst : ∃ cs, w.cells? 0 a (Try.prog.cellsOf 30) = some cs := by
        by_cases hl0 : 0 < len
        · have := hel 0 hl0
          rw [List.getElem?_eq_getElem (by omega), Option.bind_eq_some_iff] at this
          obtain ⟨cs, h2, _⟩ := this
          exact ⟨cs, by simpa [Addr.add] using h2⟩
        · obtain rfl : len = 0 := by omega
          have := hr2 0 (by omega)
          rw [List.getElem?_eq_getElem (by omega), Option.bind_eq_some_iff] at this
          obtain ⟨cs, h2, _⟩ := this
          exact ⟨cs, by simpa [Addr.add] using h2⟩
      obtain ⟨cs0, hcs0⟩ := hfirst
      obtain ⟨_, hcl0, hat0⟩ := World.cells?_some hcs0
      have hc0' := hat0 0 (by rw [hk]; omega)
      have hadd0 : a.add 0 = a := rfl
      rw [hadd0] at hc0'
      obtain ⟨y0, hy0⟩ : ∃ y, cs0[0]? = some y := ⟨_, List.getElem?_eq_getElem (by rw [hcl0, hk]; omega)⟩
      rw [hy0] at hc0'
      obtain ⟨c, e0, fz, hc⟩ : ∃ c e0 fz, w.heap[a.block]? = some (.cells c e0 fz) := by
        unfold World.cell? at hc0'
        split at hc0'
        · rename_i c el fz hc; exact ⟨c, el, fz, hc⟩
        · cases hc0'
      have hspot : a.spot = none := by
        unfold World.cell? at hc0'
        rw [hc] at hc0'
        simp only at hc0'
        cases hsq : a.spot with
        | none => rfl
        | some q => rw [hsq] at hc0'; simp at hc0'
      obtain ⟨lo, hi⟩ := fz
      have hrow : ∀ i, i < len → ∃ (row : List Dat) (k : Int) (s : List UInt8) (v : Value) (D : List (List Dat)) (n : Int), row = [.dI k, .dS s, .dL D, .dI n] ∧ c[a.off + i * 4]? = some (.int .i64 k) ∧ c[a.off + (i * 4 + 1)]? = some (.string ⟨s.toArray⟩) ∧ c[a.off + (i * 4 + 2)]? = some v ∧ c[a.off + (i * 4 + 3)]? = some (.int .i64 n) ∧
          ((v = .slice none 0 0 ∧ D = []) ∨ (D = [] ∧ ∃ a', v = .slice (some a') 0 0) ∨ ∃ a' len' cap', v = .slice (some a') len' cap' ∧ SliceAt w a' len' cap' shD D) := fun i hi' => by
        have h1 := hel i hi'
        rw [List.getElem?_eq_getElem (by omega), Option.bind_eq_some_iff] at h1
        obtain ⟨cs, h2, h3⟩ := h1
        obtain ⟨_, hcl, h4⟩ := World.cells?_some h2
        rw [hk] at hcl h4
        have hcell : ∀ j, j < 4 → c[a.off + (i * 4 + j)]? = cs[j]? := fun j hj => by
          have h5 := h4 j hj
          have hadd : (a.add (i * 4)).add j = ⟨a.block, a.off + (i * 4 + j), none⟩ := by
            obtain ⟨b, o, s⟩ := a
            simp only at hspot
            subst hspot
            unfold Addr.add
            by_cases h6 : i * 4 = 0
            · by_cases h7 : j = 0
              · simp [h6, h7]
              · simp [h6, h7]
            · by_cases h7 : j = 0
              · simp [h6, h7]
              · simp [h6, h7, Nat.add_assoc]
          rw [hadd] at h5
          unfold World.cell? at h5
          simp only [hc] at h5
          simpa using h5
        obtain ⟨c0, c1, c2, c3, rfl⟩ : ∃ c0 c1 c2 c3, cs = [c0, c1, c2, c3] := by
          match cs, hcl with
          | [c0, c1, c2, c3], _ => exact ⟨c0, c1, c2, c3, rfl⟩
        obtain ⟨xs, m', _, _, _, hxl, hg⟩ := DataW.trod_struct Try.underlying30 h3
        have g0 := hg 0 _ rfl
        have g1 := hg 1 _ rfl
        have g2 := hg 2 _ rfl
        have g3 := hg 3 _ rfl
        have hx4 : xs.length = 4 := hxl
        rw [List.getElem?_eq_getElem (by omega)] at g0 g1 g2 g3
        have k0 : Try.prog.cellsOf 3 = 1 := by kernel_rfl
        have k1 : Try.prog.cellsOf 9 = 1 := by kernel_rfl
        have k2 : Try.prog.cellsOf 28 = 1 := by kernel_rfl
        have g0' : DataW.trod enc Try.prog w 0 (fun _ => true) true m' 3 (List.take (Try.prog.cellsOf 3) [c0, c1, c2, c3]) = some xs[0] := g0
        have g1' : DataW.trod enc Try.prog w 0 (fun _ => true) true m' 9 (List.take (Try.prog.cellsOf 9) [c1, c2, c3]) = some xs[1] := g1
        have g2' : DataW.trod enc Try.prog w 0 (fun _ => true) true m' 28 (List.take (Try.prog.cellsOf 28) [c2, c3]) = some xs[2] := g2
        have g3' : DataW.trod enc Try.prog w 0 (fun _ => true) true m' 3 (List.take (Try.prog.cellsOf 3) [c3]) = some xs[3] := g3
        rw [k0] at g0' g3'
        rw [k1] at g1'
        rw [k2] at g2'
        obtain ⟨kk, e0, _, _⟩ := DataW.trod_int Try.underlying3 g0'
        obtain ⟨ss, e1, _, _⟩ := DataW.trod_string Try.underlying9 g1'
        obtain ⟨nn, e3, _, _⟩ := DataW.trod_int Try.underlying3 g3'
        obtain rfl : c0 = _ := (List.cons.inj e0).1
        obtain rfl : c1 = _ := (List.cons.inj e1).1
        obtain rfl : c3 = _ := (List.cons.inj e3).1
        have q0 := hcell 0 (by omega)
        have q1 := hcell 1 (by omega)
        have q2 := hcell 2 (by omega)
        have q3 := hcell 3 (by omega)
        have e2 := read_slice 10 Try.underlying28 (sh := shD) (by kernel_rfl) (by kernel_rfl) (by decide) g2'
        rcases e2 with h2 | ⟨a', h2⟩ | ⟨a', len', cap', D, h2, _, hs⟩
        · exact ⟨_, kk, ss.data.toList, c2, [], nn, rfl, q0, q1, q2, q3, .inl ⟨h2, rfl⟩⟩
        · exact ⟨_, kk, ss.data.toList, c2, [], nn, rfl, q0, q1, q2, q3, .inr (.inl ⟨rfl, a', h2⟩)⟩
        · exact ⟨_, kk, ss.data.toList, c2, D, nn, rfl, q0, q1, q2, q3, .inr (.inr ⟨a', len', cap', h2, hs⟩)⟩
      refine ⟨a, len, cap, (List.range len).map fun i => if h : i < len then Classical.choose (hrow i h) else [], rfl, ⟨hspot, hl, by simp, c, e0, lo, hi, hc, fun i hi' => ?_⟩⟩
      have hget : ((List.range len).map fun i => if h : i < len then Classical.choose (hrow i h) else []).getD i [] = Classical.choose (hrow i hi') := by
        simp [List.getD_eq_getElem?_getD, hi']
      obtain ⟨k, s, v, D, n, p1, p2⟩ := Classical.choose_spec (hrow i hi')
      exact ⟨k, s, v, D, n, by rw [hget]; exact p1, p2⟩
theorem read_arg {r : Reach} {b0 : Nat} {v : Value} {d : DataW H} {p : List MemPlace} (hv : Value.okWide Try.prog w r b0 22 v) (h : DataW.Trod enc Try.prog w 0 (fun _ => true) true 22 v d p) :
    v = .slice none 0 0 ∨ ∃ a len cap rows, v = .slice (some a) len cap ∧ CallsAt w a len cap rows := by
  obtain ⟨a0, len0, cap0, rfl⟩ := okWide_slice Try.underlying22 hv
  obtain ⟨fuel, hf⟩ := h
  rcases read_calls (v := .slice a0 len0 cap0) hf with h1 | ⟨a, h1⟩ | h1
  · exact .inl h1
  · right
    cases h1
    simp only [Value.okWide, Try.underlying22, Cell.okWide, Cell.ok] at hv
    obtain ⟨_, _, _, hspot, row0, cells0, hshape, _⟩ := hv
    obtain ⟨c, e0, ⟨lo, hi⟩, hc⟩ : ∃ c e0 fz, w.heap[a.block]? = some (.cells c e0 fz) := by
      unfold World.shape? at hshape
      split at hshape
      · rename_i c el fz hc; exact ⟨c, el, fz, hc⟩
      · cases hshape
    exact ⟨a, 0, 0, [], rfl, hspot, Nat.le_refl _, rfl, c, e0, lo, hi, hc, fun i hi' => absurd hi' (Nat.not_lt_zero _)⟩
  · exact .inr h1
end
end Go.Proofs.Ytnjafgigldfcdaa
